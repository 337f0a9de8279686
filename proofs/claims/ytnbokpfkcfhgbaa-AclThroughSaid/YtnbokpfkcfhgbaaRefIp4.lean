/- A walk of the reference's Parse of datagrams. -/
import Derived.Test.YtnbokpfkcfhgbaaIp4
import Derived.StillTailTactics
namespace Go.Proofs.Ytnbokpfkcfhgbaa
open Go Go.RowKit
attribute [local go_sem ↓] Go.wp_at_zero Go.wp_at_succ

theorem below_dd (w : World) : Below w.heap.size w ((w.alloc (.cells zeroD 29)).alloc (.cells zeroD 29)) := ((Below.refl _ _).alloc (Nat.le_refl _) _).alloc (by simp) _

set_option maxRecDepth 100000 in
set_option maxHeartbeats 8000000 in
theorem refIp4_any (A : Option Addr) (n c : Nat) (L : List Int) (w : World) (hs : BSl w w.heap.size A n c L) :
    Calls Try.prog 63 #[.slice A n c] w (IpPost .i64 w L) := by
  by_cases h20 : n < 20
  · have HE := Lib.hid (ip_err (show ipE L = 10 by unfold ipE; rw [if_pos (by rw [hs.len]; exact h20)]) (by omega))
    have d : decide ((n : Int) < 20) = true := by simp; omega
    clear hs
    go_enter Try.func63, Try.ntmps63
    go_wp2_with fail
    refine bodyPost_ret (v := .tuple #[.agg dgZero.cells.toArray, .int .i64 10]) (by simp [results, Try.results63, go_sem, dgZero, DGR.cells, *]) rfl ?_
    exact ⟨dgZero, 10, rfl, HE.out, World.ownsRow_nil _ _ _ _, World.ownsRow_nil _ _ _ _, below_dd w⟩
  have hA : ∃ b o, A = some ⟨b, o, none⟩ := by
    obtain ⟨b, o, e, _⟩ := hs.els 0 _ (nums_get (x := L[0]'(by rw [hs.len]; omega)) (List.getElem?_eq_getElem _))
    exact ⟨b, o, e⟩
  obtain ⟨b, o, rfl⟩ := hA
  have hcap := hs.cap
  have hsm := hs.small
  have hz := (below_dd w).drew
  have h00 := hs.at_ (i := 0) (by omega)
  have hbw : b < w.heap.size := lt_of_cell h00
  have h0 := keep_cell h00 (below_dd w)
  have hx := hs.isb.at_ 0
  have NT := ((hs.keep hz).mid (i := 2) (k := 2) (by omega) (by omega)).num (by omega)
  have ht : 0 ≤ numL ((L.drop 2).take 2) ∧ numL ((L.drop 2).take 2) < 256 ^ 2 := numL_top 2 (by omega) _ (by simp; omega) ((hs.isb.drop _).take _)
  have htT : numL ((L.drop 2).take 2) = (ipT L : Int) := by unfold ipT; omega
  rw [htT] at NT ht
  have hh : 4 * (L.getD 0 0 % 16) = (ipH L : Int) := by unfold ipH; omega
  have hhb : ipH L ≤ 60 := by omega
  have hE : ipE L = if L.getD 0 0 / 16 ≠ 4 ∨ ipH L < 20 ∨ ipT L < ipH L then 11 else if n < ipT L then 10 else if ckS (L.take (ipH L)) ≠ 0 then 50 else 0 := by
    unfold ipE
    rw [if_neg (by rw [hs.len]; exact h20), hs.len]
  have hD : ipD L = ⟨L.getD 1 0, L.getD 8 0, L.getD 9 0, numL ((L.drop 4).take 2), numL ((L.drop 6).take 2), numL ((L.drop 12).take 4), numL ((L.drop 16).take 4), (L.drop 20).take (ipH L - 20), (L.drop (ipH L)).take (ipT L - ipH L)⟩ := rfl
  generalize ipH L = h at *
  generalize ipT L = t at *
  have hmul : IntKind.i64.wrap (4 * (L.getD 0 0 % 16)) = (h : Int) := by rw [IntWalk.i64_in _ (by omega)]; exact hh
  have hwt : IntKind.i64.wrap (t : Int) = (t : Int) := IntWalk.i64_in _ (by omega)
  generalize hx0 : L.getD 0 0 = x at *
  have d : decide ((n : Int) < 20) = false := by simp; omega
  have i4 : (4 : Int) ≤ (c : Int) := by omega
  have i0 : 0 < n := by omega
  have hwx : IntKind.i64.wrap x = x := IntWalk.i64_in _ (by omega)
  have htm : Int.tmod x 16 = x % 16 := Int.tmod_eq_emod_of_nonneg hx.1
  have hc2 : ¬ c = 2 := by omega
  have HNT := Lib.hid NT
  have HD := Lib.hid hD
  have HE := Lib.hid hE
  simp only [zeroD, Nat.add_zero] at h0 HNT h00
  clear NT htT hE hD
  have hne : w.heap.size ≠ b := by omega
  go_enter Try.func63, Try.ntmps63
  go_wp2_with fail
  go_region_held3 (fun W => W.cell? ⟨b, o, none⟩ = some (.int .u8 x)) (go_keep) (first | (go_at_call 43; refine HNT.out.mono ?_; rintro e w9 ⟨rfl, rfl⟩))
  have h1 := keep_cell h00 hz
  have hB0 : Blk ((w.alloc (.cells zeroD 29)).alloc (.cells zeroD 29)).drew w.heap.size 29 zeroD := Blk.keep (Blk.new w 29 zeroD) (((Below.refl _ _).alloc (Nat.le_refl _) _).drew)
  have hN0 : Blk ((w.alloc (.cells zeroD 29)).alloc (.cells zeroD 29)).drew (w.heap.size + 1) 29 zeroD := by
    have := Blk.new (w.alloc (.cells zeroD 29)) 29 zeroD
    rw [show (w.alloc (.cells zeroD 29)).heap.size = w.heap.size + 1 by simp] at this
    exact this
  have hs1 := hs.keep hz
  simp only [zeroD] at hB0 hN0 hs1 hz h1
  generalize ((w.alloc (.cells #[.int .u8 0, .int .u8 0, .int .u8 0, .int .u16 0, .int .u16 0, .int .u32 0, .int .u32 0, .slice none 0 0, .slice none 0 0] 29)).alloc (.cells #[.int .u8 0, .int .u8 0, .int .u8 0, .int .u16 0, .int .u16 0, .int .u32 0, .int .u32 0, .slice none 0 0, .slice none 0 0] 29)).drew = w1 at *
  clear h0 h00 HNT
  obtain ⟨⟨c0, c1, c2, c3, c4⟩, c5, c6, c7, c8⟩ := Blk.cells9 hB0
  obtain ⟨⟨m0, m1, m2, m3, m4⟩, m5, m6, m7, m8⟩ := Blk.marks9 hB0
  obtain ⟨⟨n0, n1, n2, n3, n4⟩, n5, n6, n7, n8⟩ := Blk.cells9 hN0
  have hzb : Below w.heap.size w (w1.setCells w.heap.size 0 zeroD.toList) := back_sets _ _ hz
  by_cases f1 : x / 16 = 4
  · have g1 : (x / 16 != 4) = false := by simpa using f1
    by_cases f2 : h < 20
    · have g2 : decide ((h : Int) < 20) = true := by simp; omega
      have HI := Lib.hid (ip_err (show ipE L = 11 by rw [HE.out, if_pos (.inr (.inl f2))]) (by omega))
      go_wp2_with fail
      refine bodyPost_ret (v := .tuple #[.agg dgZero.cells.toArray, .int .i64 11]) (by simp [results, Try.results63, go_sem, dgZero, DGR.cells, *]) rfl ?_
      exact ⟨dgZero, 11, rfl, HI.out, World.ownsRow_nil _ _ _ _, World.ownsRow_nil _ _ _ _, hzb⟩
    have g2 : decide ((h : Int) < 20) = false := by simp; omega
    by_cases f3 : t < h
    · have g3 : decide ((t : Int) < (h : Int)) = true := by simp; omega
      have HI := Lib.hid (ip_err (show ipE L = 11 by rw [HE.out, if_pos (.inr (.inr f3))]) (by omega))
      go_wp2_with fail
      refine bodyPost_ret (v := .tuple #[.agg dgZero.cells.toArray, .int .i64 11]) (by simp [results, Try.results63, go_sem, dgZero, DGR.cells, *]) rfl ?_
      exact ⟨dgZero, 11, rfl, HI.out, World.ownsRow_nil _ _ _ _, World.ownsRow_nil _ _ _ _, hzb⟩
    have g3 : decide ((t : Int) < (h : Int)) = false := by simp; omega
    have hform : ¬ (x / 16 ≠ 4 ∨ h < 20 ∨ t < h) := by omega
    by_cases f4 : n < t
    · have g4 : decide ((n : Int) < (t : Int)) = true := by simp; omega
      have HI := Lib.hid (ip_err (show ipE L = 10 by rw [HE.out, if_neg hform, if_pos f4]) (by omega))
      go_wp2_with fail
      refine bodyPost_ret (v := .tuple #[.agg dgZero.cells.toArray, .int .i64 10]) (by simp [results, Try.results63, go_sem, dgZero, DGR.cells, *]) rfl ?_
      exact ⟨dgZero, 10, rfl, HI.out, World.ownsRow_nil _ _ _ _, World.ownsRow_nil _ _ _ _, hzb⟩
    have g4 : decide ((n : Int) < (t : Int)) = false := by simp; omega
    have SR := Lib.hid (refCk_any (some ⟨b, o, none⟩) h c (L.take h) w1 ((hs1.take (k := h) (by omega)).mono hz.size))
    by_cases f5 : ckS (L.take h) = 0
    · have g5 : (ckS (L.take h) != 0) = false := by simpa using f5
      generalize hck : ckS (L.take h) = q at *
      go_wp2_with fail
      refine SR.out.mono ?_
      rintro e w2 ⟨rfl, hb2⟩
      clear SR c0 c1 c2 c3 c4 c5 c6 c7 c8 m0 m1 m2 m3 m4 m5 m6 m7 m8 n0 n1 n2 n3 n4 n5 n6 n7 n8 hzb h1
      have hB2 := Blk.keep hB0 hb2
      have hbw2 := below_on hz hb2
      have hs2 := hs1.keep (hb2.mono hz.size)
      have hE0 : ipE L = 0 := by rw [HE.out, if_neg hform, if_neg f4, if_neg (by omega)]
      have HIS := Lib.hid fun oA oC dA dC => show IpIs L ⟨⟨L.getD 1 0, L.getD 8 0, L.getD 9 0, numL ((L.drop 4).take 2), numL ((L.drop 6).take 2), numL ((L.drop 12).take 4), numL ((L.drop 16).take 4), (L.drop 20).take (h - 20), (L.drop h).take (t - h)⟩, oA, oC, dA, dC⟩ 0 from ⟨hE0.symm, fun _ => HD.out.symm, fun e => absurd rfl e⟩
      have q1 := hs2.at_ (i := 1) (by omega)
      have q8 := hs2.at_ (i := 8) (by omega)
      have q9 := hs2.at_ (i := 9) (by omega)
      have j1 : (1 : Int) < (n : Int) := by omega
      have j8 : (8 : Int) < (n : Int) := by omega
      have j9 : (9 : Int) < (n : Int) := by omega
      have hal := (Below.refl w2.heap.size w2).alloc (Nat.le_refl _) (.cells #[.int .u8 0, .int .u8 0, .int .u8 0, .int .u16 0, .int .u16 0, .int .u32 0, .int .u32 0, .slice none 0 0, .slice none 0 0] 29)
      have p1 := keep_cell q1 hal
      have p8 := keep_cell q8 hal
      have p9 := keep_cell q9 hal
      generalize L.getD 1 0 = tos at *
      generalize L.getD 8 0 = ttl at *
      generalize L.getD 9 0 = pro at *
      clear hE0 hs1 hB0 hN0 hz
      go_wp2_with fail
      go_region
      have hxv0 : Blk (w2.alloc (.cells #[.int .u8 tos, .int .u8 ttl, .int .u8 pro, .int .u16 0, .int .u16 0, .int .u32 0, .int .u32 0, .slice none 0 0, .slice none 0 0] 29)).drew w2.heap.size 29 #[.int .u8 tos, .int .u8 ttl, .int .u8 pro, .int .u16 0, .int .u16 0, .int .u32 0, .int .u32 0, .slice none 0 0, .slice none 0 0] := Blk.new w2 _ _
      have hBv0 := hB2.keep (((Below.refl w2.heap.size w2).alloc (Nat.le_refl _) (.cells #[.int .u8 tos, .int .u8 ttl, .int .u8 pro, .int .u16 0, .int .u16 0, .int .u32 0, .int .u32 0, .slice none 0 0, .slice none 0 0] 29)).drew)
      have hbv0 := (hbw2.alloc hbw2.size (.cells #[.int .u8 tos, .int .u8 ttl, .int .u8 pro, .int .u16 0, .int .u16 0, .int .u32 0, .int .u32 0, .slice none 0 0, .slice none 0 0] 29)).drew
      have hsv0 := hs2.keep (((Below.refl w2.heap.size w2).alloc (Nat.le_refl _) (.cells #[.int .u8 tos, .int .u8 ttl, .int .u8 pro, .int .u16 0, .int .u16 0, .int .u32 0, .int .u32 0, .slice none 0 0, .slice none 0 0] 29)).drew.mono hbw2.size)
      have hyB : w.heap.size ≠ w2.heap.size := by have := hB2.lt; omega
      have hyw : w.heap.size ≤ w2.heap.size := hbw2.size
      generalize (w2.alloc (.cells #[.int .u8 tos, .int .u8 ttl, .int .u8 pro, .int .u16 0, .int .u16 0, .int .u32 0, .int .u32 0, .slice none 0 0, .slice none 0 0] 29)).drew = v0 at *
      clear p1 p8 p9 q1 q8 q9 hal hB2 hbw2 hs2 hb2
      generalize w2.heap.size = y at *
      have b_idn : 0 ≤ numL ((L.drop 4).take 2) ∧ numL ((L.drop 4).take 2) < 256 ^ 2 := numL_top 2 (by omega) _ (by simp; omega) ((hs.isb.drop _).take _)
      have b_frg : 0 ≤ numL ((L.drop 6).take 2) ∧ numL ((L.drop 6).take 2) < 256 ^ 2 := numL_top 2 (by omega) _ (by simp; omega) ((hs.isb.drop _).take _)
      have b_srcn : 0 ≤ numL ((L.drop 12).take 4) ∧ numL ((L.drop 12).take 4) < 256 ^ 4 := numL_top 4 (by omega) _ (by simp; omega) ((hs.isb.drop _).take _)
      have b_dstn : 0 ≤ numL ((L.drop 16).take 4) ∧ numL ((L.drop 16).take 4) < 256 ^ 4 := numL_top 4 (by omega) _ (by simp; omega) ((hs.isb.drop _).take _)
      have N0 := Lib.hid ((hsv0.mid (i := 4) (k := 2) (by omega) (by omega)).num (by omega))
      generalize numL ((L.drop 4).take 2) = idn at *
      have hwidn : IntKind.u16.wrap idn = idn := IntWalk.u16_in _ (by omega)
      have c0 := hxv0.cell 3
      have m0 := hxv0.frozen 3
      have s0 : (6 : Int) ≤ (c : Int) := by omega
      go_wp2_with fail
      refine N0.out.mono ?_
      rintro e z ⟨rfl, rfl⟩
      have hxv1 : Blk (v0.setCell ⟨y, 3, none⟩ (.int .u16 idn)) y 29 #[.int .u8 tos, .int .u8 ttl, .int .u8 pro, .int .u16 idn, .int .u16 0, .int .u32 0, .int .u32 0, .slice none 0 0, .slice none 0 0] := hxv0.set_ 3 (.int .u16 idn)
      have hBv1 := hBv0.setOther hyB 3 (.int .u16 idn)
      have hbv1 := hbv0.setCell (p := ⟨y, 3, none⟩) hyw (.int .u16 idn)
      have hsv1 := hsv0.keep ((Below.refl w.heap.size v0).setCell (p := ⟨y, 3, none⟩) hyw (.int .u16 idn))
      clear N0 hxv0 hBv0 hbv0 hsv0
      have N1 := Lib.hid ((hsv1.mid (i := 6) (k := 2) (by omega) (by omega)).num (by omega))
      generalize numL ((L.drop 6).take 2) = frg at *
      have hwfrg : IntKind.u16.wrap frg = frg := IntWalk.u16_in _ (by omega)
      have c1 := hxv1.cell 4
      have m1 := hxv1.frozen 4
      have s1 : (8 : Int) ≤ (c : Int) := by omega
      go_wp2_with fail
      generalize v0.setCell ⟨y, 3, none⟩ (.int .u16 idn) = v1 at *
      refine N1.out.mono ?_
      rintro e z ⟨rfl, rfl⟩
      have hxv2 : Blk (v1.setCell ⟨y, 4, none⟩ (.int .u16 frg)) y 29 #[.int .u8 tos, .int .u8 ttl, .int .u8 pro, .int .u16 idn, .int .u16 frg, .int .u32 0, .int .u32 0, .slice none 0 0, .slice none 0 0] := hxv1.set_ 4 (.int .u16 frg)
      have hBv2 := hBv1.setOther hyB 4 (.int .u16 frg)
      have hbv2 := hbv1.setCell (p := ⟨y, 4, none⟩) hyw (.int .u16 frg)
      have hsv2 := hsv1.keep ((Below.refl w.heap.size v1).setCell (p := ⟨y, 4, none⟩) hyw (.int .u16 frg))
      clear N1 hxv1 hBv1 hbv1 hsv1
      have N2 := Lib.hid ((hsv2.mid (i := 12) (k := 4) (by omega) (by omega)).num (by omega))
      generalize numL ((L.drop 12).take 4) = srcn at *
      have hwsrcn : IntKind.u32.wrap srcn = srcn := IntWalk.u32_in _ (by omega)
      have c2 := hxv2.cell 5
      have m2 := hxv2.frozen 5
      have s2 : (16 : Int) ≤ (c : Int) := by omega
      go_wp2_with fail
      generalize v1.setCell ⟨y, 4, none⟩ (.int .u16 frg) = v2 at *
      refine N2.out.mono ?_
      rintro e z ⟨rfl, rfl⟩
      have hxv3 : Blk (v2.setCell ⟨y, 5, none⟩ (.int .u32 srcn)) y 29 #[.int .u8 tos, .int .u8 ttl, .int .u8 pro, .int .u16 idn, .int .u16 frg, .int .u32 srcn, .int .u32 0, .slice none 0 0, .slice none 0 0] := hxv2.set_ 5 (.int .u32 srcn)
      have hBv3 := hBv2.setOther hyB 5 (.int .u32 srcn)
      have hbv3 := hbv2.setCell (p := ⟨y, 5, none⟩) hyw (.int .u32 srcn)
      have hsv3 := hsv2.keep ((Below.refl w.heap.size v2).setCell (p := ⟨y, 5, none⟩) hyw (.int .u32 srcn))
      clear N2 hxv2 hBv2 hbv2 hsv2
      have N3 := Lib.hid ((hsv3.mid (i := 16) (k := 4) (by omega) (by omega)).num (by omega))
      generalize numL ((L.drop 16).take 4) = dstn at *
      have hwdstn : IntKind.u32.wrap dstn = dstn := IntWalk.u32_in _ (by omega)
      have c3 := hxv3.cell 6
      have m3 := hxv3.frozen 6
      have s3 : (20 : Int) ≤ (c : Int) := by omega
      go_wp2_with fail
      generalize v2.setCell ⟨y, 5, none⟩ (.int .u32 srcn) = v3 at *
      refine N3.out.mono ?_
      rintro e z ⟨rfl, rfl⟩
      have hxv4 : Blk (v3.setCell ⟨y, 6, none⟩ (.int .u32 dstn)) y 29 #[.int .u8 tos, .int .u8 ttl, .int .u8 pro, .int .u16 idn, .int .u16 frg, .int .u32 srcn, .int .u32 dstn, .slice none 0 0, .slice none 0 0] := hxv3.set_ 6 (.int .u32 dstn)
      have hBv4 := hBv3.setOther hyB 6 (.int .u32 dstn)
      have hbv4 := hbv3.setCell (p := ⟨y, 6, none⟩) hyw (.int .u32 dstn)
      have hsv4 := hsv3.keep ((Below.refl w.heap.size v3).setCell (p := ⟨y, 6, none⟩) hyw (.int .u32 dstn))
      clear N3 hxv3 hBv3 hbv3 hsv3
      have c47 := hxv4.cell 7
      have u1 : (0 : Int) ≤ 20 := by omega
      have u2 : (20 : Int) ≤ (h : Int) := by omega
      have u3 : (h : Int) ≤ (c : Int) := by omega
      have hMO := (hsv4.cut (k := 20) (by omega)).take (k := h - 20) (by omega)
      go_wp2_with fail
      generalize v3.setCell ⟨y, 6, none⟩ (.int .u32 dstn) = v4 at *
      obtain ⟨X, hX⟩ : ∃ X, (if c = 20 then some (⟨b, o, none⟩ : Addr) else some ⟨b, o + 20, none⟩) = X := ⟨_, rfl⟩
      rw [show (some (⟨b, o, none⟩ : Addr)).map (·.add 20) = some ⟨b, o + 20, none⟩ from by simp [Addr.add], hX] at hMO
      generalize hOL : (L.drop 20).take (h - 20) = OL at *
      have hMOD := hMO.keep ((Below.refl w.heap.size v4).drew)
      have HEO := Lib.hid hMOD.els
      have HNO := Lib.hid (show (nums .u8 OL).length = h - 20 by rw [nums_length]; exact hMO.len)
      have HLO := Lib.hid hMO.len
      have hy1 : 0 + (h - 20) ≤ maxLen := by unfold maxLen; omega
      have hy2 : (0 + (h - 20)) * 1 ≤ 140737488355328 := by omega
      have htn : (h : Int).toNat - 20 = h - 20 := by omega
      go_still_tail 5, (by kernel_rfl)
      try rw [hX]
      change wpList _ _ _ _ _ v4.drew
      refine wpList_appS rfl _ _ _ rfl w.heap.size 5 _ 1 1 ei_byte _ 0 _ (by rfl) (World.ownsRow_nil _ _ _ _) X (h - 20) (c - 20) (nums .u8 OL) (by rfl) HEO.out HNO.out (nums_one _ _) (nums_cells_one _ _) hy1 hy2 hbv4.size ?_
      intro v' wa hown' hga
      have hbA := hbv4.drew.trans ((Grew.nil hga).mono hbv4.size)
      have hxA := hxv4.keep (((Below.refl _ _).drew).trans (Grew.nil hga))
      have hBA := hBv4.keep (((Below.refl _ _).drew).trans (Grew.nil hga))
      have hsA := hsv4.keep (((Below.refl w.heap.size v4).drew).trans ((Grew.nil hga).mono hbv4.size))
      have hownO : OwnB wa w.heap.size v' OL := own_appS (L := []) hown' rfl HLO.out
      obtain ⟨oA, oC, e', _, _, _⟩ := own_read hownO
      subst e'
      clear hown' hga HEO HNO hy1 hy2 hMO hMOD hxv4 hBv4 hbv4 hsv4 hX c47 htn
      have c77 := hxA.cell 7
      have m77 := hxA.frozen 7
      have hx5 : Blk (wa.setCell ⟨y, 7, none⟩ (.slice oA OL.length oC)) y 29 #[.int .u8 tos, .int .u8 ttl, .int .u8 pro, .int .u16 idn, .int .u16 frg, .int .u32 srcn, .int .u32 dstn, .slice oA OL.length oC, .slice none 0 0] := hxA.set_ 7 (.slice oA OL.length oC)
      have hB5 := hBA.setOther hyB 7 (.slice oA OL.length oC)
      have hb5 := hbA.setCell (p := ⟨y, 7, none⟩) hyw (.slice oA OL.length oC)
      have hs5 := hsA.keep ((Below.refl w.heap.size wa).setCell (p := ⟨y, 7, none⟩) hyw (.slice oA OL.length oC))
      have hO5 := World.ownsRow.kept hownO (only_set (World.grownBy.refl wa (some y)) 7 (.slice oA OL.length oC)) (.inr (own_blk_ne hownO hxA (by decide)))
      have hMD := (hs5.cut (k := h) (by omega)).take (k := t - h) (by omega)
      obtain ⟨Y, hY⟩ : ∃ Y, (if c = h then some (⟨b, o, none⟩ : Addr) else some ⟨b, o + h, none⟩) = Y := ⟨_, rfl⟩
      rw [show (some (⟨b, o, none⟩ : Addr)).map (·.add h) = some ⟨b, o + h, none⟩ from by unfold Addr.add; by_cases hz : h = 0 <;> simp [hz], hY] at hMD
      generalize hDL : (L.drop h).take (t - h) = DL at *
      have hMDD := hMD.keep ((Below.refl w.heap.size _).drew)
      have HED := Lib.hid hMDD.els
      have HND := Lib.hid (show (nums .u8 DL).length = t - h by rw [nums_length]; exact hMD.len)
      have HLD := Lib.hid hMD.len
      have hy3 : 0 + (t - h) ≤ maxLen := by unfold maxLen; omega
      have hy4 : (0 + (t - h)) * 1 ≤ 140737488355328 := by omega
      have u4 : (h : Int) ≤ (t : Int) := by omega
      have u5 : (t : Int) ≤ (c : Int) := by omega
      have u6 : (0 : Int) ≤ (h : Int) := by omega
      have u7 : (0 : Int) ≤ (t : Int) := by omega
      have c58 := hx5.cell 8
      clear hsA hxA hBA hbA hownO
      go_wp2_with fail
      generalize wa.setCell ⟨y, 7, none⟩ (.slice oA OL.length oC) = v5 at *
      go_still_tail 6, (by kernel_rfl)
      try rw [hY]
      change wpList _ _ _ _ _ v5.drew
      refine wpList_appS rfl _ _ _ rfl w.heap.size 5 _ 1 1 ei_byte _ 0 _ (by rfl) (World.ownsRow_nil _ _ _ _) Y (t - h) (c - h) (nums .u8 DL) (by rfl) HED.out HND.out (nums_one _ _) (nums_cells_one _ _) hy3 hy4 hb5.size ?_
      intro v' wb hown' hga
      have hbA := hb5.drew.trans ((Grew.nil hga).mono hb5.size)
      have hxA := hx5.keep (((Below.refl _ _).drew).trans (Grew.nil hga))
      have hBA := hB5.keep (((Below.refl _ _).drew).trans (Grew.nil hga))
      have hO6 := own_below hO5 (((Below.refl _ _).drew).trans (Grew.nil hga))
      have hownD : OwnB wb w.heap.size v' DL := own_appS (L := []) hown' rfl HLD.out
      obtain ⟨dA, dC, e', _, _, _⟩ := own_read hownD
      subst e'
      clear hown' hga HED HND hy3 hy4 hMD hMDD hx5 hB5 hb5 hs5 hO5 hY c58
      have c9_0 := hxA.cell 0
      have c9_1 := hxA.cell 1
      have c9_2 := hxA.cell 2
      have c9_3 := hxA.cell 3
      have c9_4 := hxA.cell 4
      have c9_5 := hxA.cell 5
      have c9_6 := hxA.cell 6
      have c9_7 := hxA.cell 7
      have c9_8 := hxA.cell 8
      have m9_8 := hxA.frozen 8
      obtain ⟨⟨p0, p1, p2, p3, p4⟩, p5, p6, p7, p8⟩ := Blk.cells9 hBA
      obtain ⟨⟨k0, k1, k2, k3, k4⟩, k5, k6, k7, k8⟩ := Blk.marks9 hBA
      have hyB' : y ≠ w.heap.size := hyB.symm
      have hB16 := hBA.setOther hyB 8 (.slice dA DL.length dC)
      have hb16 := hbA.setCell (p := ⟨y, 8, none⟩) hyw (.slice dA DL.length dC)
      have hO16 := World.ownsRow.kept hO6 (only_set (World.grownBy.refl wb (some y)) 8 (.slice dA DL.length dC)) (.inr (own_blk_ne hO6 hxA (by decide)))
      have hD16 := World.ownsRow.kept hownD (only_set (World.grownBy.refl wb (some y)) 8 (.slice dA DL.length dC)) (.inr (own_blk_ne hownD hxA (by decide)))
      obtain ⟨vs, hvs⟩ : ∃ vs : List Value, vs = [.int .u8 tos, .int .u8 ttl, .int .u8 pro, .int .u16 idn, .int .u16 frg, .int .u32 srcn, .int .u32 dstn, .slice oA OL.length oC, .slice dA DL.length dC] := ⟨_, rfl⟩
      have hO17 := World.ownsRow.kept hO16 (own_sets _ w.heap.size vs 0 (World.grownBy.refl _ (some w.heap.size))) (.inr (own_blk_ne hO16 hB16 (by decide)))
      have hD17 := World.ownsRow.kept hD16 (own_sets _ w.heap.size vs 0 (World.grownBy.refl _ (some w.heap.size))) (.inr (own_blk_ne hD16 hB16 (by decide)))
      have hb17 := back_sets vs 0 hb16
      rw [hvs] at hO17 hD17 hb17
      clear hO16 hD16 hb16 hB16 hownD hO6 hvs hbA hBA hxA
      go_wp2_with fail
      refine bodyPost_ret (v := .tuple #[.agg #[.int .u8 tos, .int .u8 ttl, .int .u8 pro, .int .u16 idn, .int .u16 frg, .int .u32 srcn, .int .u32 dstn, .slice oA OL.length oC, .slice dA DL.length dC], .int .i64 0]) (by simp [results, Try.results63, go_sem, *]) rfl ?_
      exact ⟨_, 0, rfl, HIS.out oA oC dA dC, hO17, hD17, hb17⟩
    · have g5 : (ckS (L.take h) != 0) = true := by simpa using f5
      generalize hck : ckS (L.take h) = q at *
      go_wp2_with fail
      refine SR.out.mono ?_
      rintro e w2 ⟨rfl, hb2⟩
      clear SR c0 c1 c2 c3 c4 c5 c6 c7 c8 m0 m1 m2 m3 m4 m5 m6 m7 m8 n0 n1 n2 n3 n4 n5 n6 n7 n8 hzb h1
      have hB2 := Blk.keep hB0 hb2
      have hN2 := Blk.keep hN0 hb2
      have hbw2 := below_on hz hb2
      obtain ⟨⟨c0, c1, c2, c3, c4⟩, c5, c6, c7, c8⟩ := Blk.cells9 hB2
      obtain ⟨⟨m0, m1, m2, m3, m4⟩, m5, m6, m7, m8⟩ := Blk.marks9 hB2
      obtain ⟨⟨n0, n1, n2, n3, n4⟩, n5, n6, n7, n8⟩ := Blk.cells9 hN2
      have hzb : Below w.heap.size w (w2.setCells w.heap.size 0 zeroD.toList) := back_sets _ _ hbw2
      have HI := Lib.hid (ip_err (show ipE L = 50 by rw [HE.out, if_neg hform, if_neg f4, if_pos f5]) (by omega))
      go_wp2_with fail
      refine bodyPost_ret (v := .tuple #[.agg dgZero.cells.toArray, .int .i64 50]) (by simp [results, Try.results63, go_sem, dgZero, DGR.cells, *]) rfl ?_
      exact ⟨dgZero, 50, rfl, HI.out, World.ownsRow_nil _ _ _ _, World.ownsRow_nil _ _ _ _, hzb⟩
  · have g1 : (x / 16 != 4) = true := by simpa using f1
    have HI := Lib.hid (ip_err (show ipE L = 11 by rw [HE.out, if_pos (.inl f1)]) (by omega))
    go_wp2_with fail
    refine bodyPost_ret (v := .tuple #[.agg dgZero.cells.toArray, .int .i64 11]) (by simp [results, Try.results63, go_sem, dgZero, DGR.cells, *]) rfl ?_
    exact ⟨dgZero, 11, rfl, HI.out, World.ownsRow_nil _ _ _ _, World.ownsRow_nil _ _ _ _, hzb⟩
end Go.Proofs.Ytnbokpfkcfhgbaa
