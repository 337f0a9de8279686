/- A walk of ip4.Parse. -/
import Derived.Test.YtnbokpfkcfhgbaaIp4Law
namespace Go.Proofs.Ytnbokpfkcfhgbaa
open Go Go.RowKit
attribute [local go_sem ↓] Go.wp_at_zero Go.wp_at_succ

def zeroD : Array Value := #[.int .u8 0, .int .u8 0, .int .u8 0, .int .u16 0, .int .u16 0, .int .u32 0, .int .u32 0, .slice none 0 0, .slice none 0 0]
/-- What Parse answers. -/
def IpPost (k : IntKind) (w : World) (L : List Int) (e : Ending) (w' : World) : Prop :=
  ∃ (d : DGR) (code : Int), e = .returned (.tuple #[.agg d.cells.toArray, .int k code]) ∧ IpIs L d code ∧ OwnB w' w.heap.size (.slice d.oA d.OL.length d.oC) d.OL ∧ OwnB w' w.heap.size (.slice d.dA d.DL.length d.dC) d.DL ∧ Below w.heap.size w w'

section
variable {w : World} {b : Nat} {t : TypeId} {a0 a1 a2 a3 a4 a5 a6 a7 a8 : Value}
theorem Blk.cells9 (h : Blk w b t #[a0, a1, a2, a3, a4, a5, a6, a7, a8]) : (w.cell? ⟨b, 0, none⟩ = some a0 ∧ w.cell? ⟨b, 1, none⟩ = some a1 ∧ w.cell? ⟨b, 2, none⟩ = some a2 ∧ w.cell? ⟨b, 3, none⟩ = some a3 ∧ w.cell? ⟨b, 4, none⟩ = some a4) ∧
    (w.cell? ⟨b, 5, none⟩ = some a5 ∧ w.cell? ⟨b, 6, none⟩ = some a6 ∧ w.cell? ⟨b, 7, none⟩ = some a7 ∧ w.cell? ⟨b, 8, none⟩ = some a8) :=
  ⟨⟨h.cell 0, h.cell 1, h.cell 2, h.cell 3, h.cell 4⟩, h.cell 5, h.cell 6, h.cell 7, h.cell 8⟩
theorem Blk.marks9 {cs : Array Value} (h : Blk w b t cs) : (w.frozen? ⟨b, 0, none⟩ = false ∧ w.frozen? ⟨b, 1, none⟩ = false ∧ w.frozen? ⟨b, 2, none⟩ = false ∧ w.frozen? ⟨b, 3, none⟩ = false ∧ w.frozen? ⟨b, 4, none⟩ = false) ∧
    (w.frozen? ⟨b, 5, none⟩ = false ∧ w.frozen? ⟨b, 6, none⟩ = false ∧ w.frozen? ⟨b, 7, none⟩ = false ∧ w.frozen? ⟨b, 8, none⟩ = false) :=
  ⟨⟨h.frozen 0, h.frozen 1, h.frozen 2, h.frozen 3, h.frozen 4⟩, h.frozen 5, h.frozen 6, h.frozen 7, h.frozen 8⟩
end
theorem back_sets {w : World} : ∀ (vs : List Value) (o : Nat) {v : World}, Below w.heap.size w v → Below w.heap.size w (v.setCells w.heap.size o vs)
  | [], _, _, h => h
  | x :: xs, o, _, h => back_sets xs (o + 1) (h.setCell (p := ⟨w.heap.size, o, none⟩) (Nat.le_refl _) x)
theorem zero_back {w w' : World} (hb : Below w.heap.size w w') (_ : Blk w' w.heap.size 29 zeroD) : Below w.heap.size w (w'.setCells w.heap.size 0 zeroD.toList) := back_sets _ _ hb
theorem St.rest {W : World} {g B n c at_ : Nat} {A : Option Addr} {L : List Int} {at' : Nat} {bad' bad : Bool} (h : St W g B A n c L at_ bad) {M : List Int} (hq : rdTake L at_ bad ((n : Int) - at_) = (M, at', bad')) :
    Calls Try.prog 79 #[.pointer (some ⟨g, 0, none⟩)] W fun e W' => ∃ A' c', e = .returned (.slice A' M.length c') ∧ OwnB W' W.heap.size (.slice A' M.length c') M ∧ St W' g B A n c L at' bad' ∧ W.grownBy W' (some g) := by
  have hle : (rdTake L at_ bad ((n : Int) - at_)).2.1 ≤ n := by have := rdTake_le L at_ bad ((n : Int) - at_) (by rw [h.sl.len]; exact h.le); rw [h.sl.len] at this; exact this
  refine (Rest_any g B A n c at_ bad L W h.rd h.le h.sl h.bg).mono ?_
  rintro e w1 ⟨v', rfl, hown, hr, hg⟩
  rw [hq] at hr hle hown
  obtain ⟨A', c', e, _⟩ := own_read hown
  subst e
  exact ⟨A', c', rfl, hown, h.to hr hg hle, hg⟩

set_option maxRecDepth 100000 in
set_option maxHeartbeats 8000000 in
theorem ip4Parse_any (A : Option Addr) (n c : Nat) (L : List Int) (w : World) (hs : BSl w w.heap.size A n c L) :
    Calls Try.prog 87 #[.slice A n c] w (IpPost .i64 w L) := by
  by_cases h20 : n < 20
  · have HE := Lib.hid (ip_err (show ipE L = 10 by unfold ipE; rw [if_pos (by rw [hs.len]; exact h20)]) (by omega))
    have d : decide ((n : Int) < 20) = true := by simp; omega
    clear hs
    go_enter Try.func87, Try.ntmps87
    go_wp2_with fail
    refine bodyPost_ret (v := .tuple #[.agg dgZero.cells.toArray, .int .i64 10]) (by simp [results, Try.results87, go_sem, dgZero, DGR.cells, *]) rfl ?_
    exact ⟨dgZero, 10, rfl, HE.out, World.ownsRow_nil _ _ _ _, World.ownsRow_nil _ _ _ _, (Below.refl _ _).alloc (Nat.le_refl _) _⟩
  have hA : ∃ b o, A = some ⟨b, o, none⟩ := by
    obtain ⟨b, o, e, _⟩ := hs.els 0 _ (nums_get (x := L[0]'(by rw [hs.len]; omega)) (List.getElem?_eq_getElem _))
    exact ⟨b, o, e⟩
  obtain ⟨b, o, rfl⟩ := hA
  have hcap := hs.cap
  have hsm := hs.small
  have hz := (Below.refl w.heap.size w).alloc (Nat.le_refl _) (.cells zeroD 29)
  have h0 := keep_cell (hs.at_ (i := 0) (by omega)) hz
  have hx := hs.isb.at_ 0
  have hsW := hs.keep hz
  have hcut := hsW.cut (k := 2) (by omega)
  rw [if_neg (by omega), show (some (⟨b, o, none⟩ : Addr)).map (·.add 2) = some ⟨b, o + 2, none⟩ from by simp [Addr.add]] at hcut
  have G := Get16_any _ _ _ _ _ hcut.len hcut.cap hcut.small hcut.isb hcut.els
  rw [if_neg (by omega)] at G
  have ht : 0 ≤ numL ((L.drop 2).take 2) ∧ numL ((L.drop 2).take 2) < 256 ^ 2 := numL_top 2 (by omega) _ (by simp; omega) ((hs.isb.drop _).take _)
  have htT : numL ((L.drop 2).take 2) = (ipT L : Int) := by unfold ipT; omega
  rw [htT] at G ht
  have hh : 4 * (L.getD 0 0 % 16) = (ipH L : Int) := by unfold ipH; omega
  have hhb : ipH L ≤ 60 := by omega
  have hand := u8_low hx.1 hx.2
  have hE : ipE L = if L.getD 0 0 / 16 ≠ 4 ∨ ipH L < 20 ∨ ipT L < ipH L then 11 else if n < ipT L then 10 else if ckS (L.take (ipH L)) ≠ 0 then 50 else 0 := by
    unfold ipE
    rw [if_neg (by rw [hs.len]; exact h20), hs.len]
  have hD : ipD L = ⟨L.getD 1 0, L.getD 8 0, L.getD 9 0, numL ((L.drop 4).take 2), numL ((L.drop 6).take 2), numL ((L.drop 12).take 4), numL ((L.drop 16).take 4), (L.drop 20).take (ipH L - 20), (L.drop (ipH L)).take (ipT L - ipH L)⟩ := rfl
  generalize ipH L = h at *
  generalize ipT L = t at *
  have hmul : IntKind.i64.wrap (4 * (L.getD 0 0 % 16)) = (h : Int) := by rw [IntWalk.i64_in _ (by omega)]; exact hh
  generalize hx0 : L.getD 0 0 = x at *
  have d : decide ((n : Int) < 20) = false := by simp; omega
  have HG := Lib.hid G
  have HD := Lib.hid hD
  have HE := Lib.hid hE
  simp only [zeroD, Nat.add_zero] at h0 HG
  clear hcut hsW G htT hE hD
  go_enter Try.func87, Try.ntmps87
  go_wp2_with fail
  refine HG.out.mono ?_
  rintro e w1 ⟨rfl, hb1⟩
  have h1 := keep_cell h0 hb1
  have hbw1 := hz.trans (hb1.mono (by simp))
  have hB0 : Blk w1 w.heap.size 29 zeroD := Blk.keep (Blk.new w 29 zeroD) hb1
  obtain ⟨⟨c0, c1, c2, c3, c4⟩, c5, c6, c7, c8⟩ := Blk.cells9 hB0
  obtain ⟨⟨m0, m1, m2, m3, m4⟩, m5, m6, m7, m8⟩ := Blk.marks9 hB0
  have hzb := zero_back hbw1 hB0
  clear h0 HG
  by_cases f1 : x / 16 = 4
  · have g1 : (x / 16 != 4) = false := by simpa using f1
    by_cases f2 : h < 20
    · have g2 : decide ((h : Int) < 20) = true := by simp; omega
      have HI := Lib.hid (ip_err (show ipE L = 11 by rw [HE.out, if_pos (.inr (.inl f2))]) (by omega))
      go_wp2_with fail
      refine bodyPost_ret (v := .tuple #[.agg dgZero.cells.toArray, .int .i64 11]) (by simp [results, Try.results87, go_sem, dgZero, DGR.cells, *]) rfl ?_
      exact ⟨dgZero, 11, rfl, HI.out, World.ownsRow_nil _ _ _ _, World.ownsRow_nil _ _ _ _, hzb⟩
    have g2 : decide ((h : Int) < 20) = false := by simp; omega
    by_cases f3 : t < h
    · have g3 : decide ((t : Int) < (h : Int)) = true := by simp; omega
      have HI := Lib.hid (ip_err (show ipE L = 11 by rw [HE.out, if_pos (.inr (.inr f3))]) (by omega))
      go_wp2_with fail
      refine bodyPost_ret (v := .tuple #[.agg dgZero.cells.toArray, .int .i64 11]) (by simp [results, Try.results87, go_sem, dgZero, DGR.cells, *]) rfl ?_
      exact ⟨dgZero, 11, rfl, HI.out, World.ownsRow_nil _ _ _ _, World.ownsRow_nil _ _ _ _, hzb⟩
    have g3 : decide ((t : Int) < (h : Int)) = false := by simp; omega
    have hform : ¬ (x / 16 ≠ 4 ∨ h < 20 ∨ t < h) := by omega
    by_cases f4 : n < t
    · have g4 : decide ((n : Int) < (t : Int)) = true := by simp; omega
      have HI := Lib.hid (ip_err (show ipE L = 10 by rw [HE.out, if_neg hform, if_pos f4]) (by omega))
      go_wp2_with fail
      refine bodyPost_ret (v := .tuple #[.agg dgZero.cells.toArray, .int .i64 10]) (by simp [results, Try.results87, go_sem, dgZero, DGR.cells, *]) rfl ?_
      exact ⟨dgZero, 10, rfl, HI.out, World.ownsRow_nil _ _ _ _, World.ownsRow_nil _ _ _ _, hzb⟩
    have g4 : decide ((n : Int) < (t : Int)) = false := by simp; omega
    have hs1 := hs.keep hbw1
    have SR := Lib.hid (sumRight_any (some ⟨b, o, none⟩) h c (L.take h) w1 ((hs1.take (k := h) (by omega)).mono hbw1.size))
    by_cases f5 : ckS (L.take h) = 0
    · have g5 : (ckS (L.take h) == 0) = true := by simpa using f5
      rw [g5] at SR
      go_wp2_with fail
      refine SR.out.mono ?_
      rintro e w2 ⟨rfl, hb2⟩
      clear SR c0 c1 c2 c3 c4 c5 c6 c7 c8 m0 m1 m2 m3 m4 m5 m6 m7 m8 hzb h1
      have hB2 := Blk.keep hB0 hb2
      have hbw2 := below_on hbw1 hb2
      have hs2 := hs1.keep (hb2.mono hbw1.size)
      go_wp2_with fail
      refine (New_any (some ⟨b, o, none⟩) t c w2).mono ?_
      rintro e w3 ⟨rfl, rfl⟩
      have hLt : (L.take t).length = t := by rw [List.length_take, hs.len]; omega
      have rdq : ∀ k s : Nat, k + s ≤ t → 1 ≤ s → s ≤ 8 → rdNum (L.take t) k false s = (numL ((L.drop k).take s), k + s, false) := fun k s h1 h2 h3 => by rw [rdNum_good (by rw [hLt]; exact h1) h2 h3, mid_take h1]
      have rd1 : ∀ k : Nat, k + 1 ≤ t → rdNum (L.take t) k false 1 = (L.getD k 0, k + 1, false) := fun k h1 => by have := rdq k 1 h1 (by omega) (by omega); rw [take_num1 (by rw [hs.len]; omega)] at this; exact this
      have Q0 := Lib.hid (rd1 0 (by omega))
      have Q1 := Lib.hid (rd1 1 (by omega))
      have Q2 := Lib.hid (show rdNum (L.take t) 2 false 2 = (numL ((L.drop 2).take 2), 2 + 2, false) from rdq 2 2 (by omega) (by omega) (by omega))
      have Q4 := Lib.hid (show rdNum (L.take t) 4 false 2 = (numL ((L.drop 4).take 2), 4 + 2, false) from rdq 4 2 (by omega) (by omega) (by omega))
      have Q6 := Lib.hid (show rdNum (L.take t) 6 false 2 = (numL ((L.drop 6).take 2), 6 + 2, false) from rdq 6 2 (by omega) (by omega) (by omega))
      have Q8 := Lib.hid (rd1 8 (by omega))
      have Q9 := Lib.hid (rd1 9 (by omega))
      have Q10 := Lib.hid (show rdNum (L.take t) 10 false 2 = (numL ((L.drop 10).take 2), 10 + 2, false) from rdq 10 2 (by omega) (by omega) (by omega))
      have Q12 := Lib.hid (show rdNum (L.take t) 12 false 4 = (numL ((L.drop 12).take 4), 12 + 4, false) from rdq 12 4 (by omega) (by omega) (by omega))
      have Q16 := Lib.hid (show rdNum (L.take t) 16 false 4 = (numL ((L.drop 16).take 4), 16 + 4, false) from rdq 16 4 (by omega) (by omega) (by omega))
      have QT := Lib.hid (show rdTake (L.take t) 20 false ((h : Int) - 20) = ((L.drop 20).take (h - 20), h, false) by rw [show (h : Int) - 20 = ((h - 20 : Nat) : Int) by omega, rdTake_good (by rw [hLt]; omega), mid_take (by omega), show 20 + (h - 20) = h by omega])
      have QR := Lib.hid (show rdTake (L.take t) h false ((t : Int) - h) = ((L.drop h).take (t - h), t, false) by rw [show (t : Int) - h = ((t - h : Nat) : Int) by omega, rdTake_good (by rw [hLt]; omega), mid_take (by omega), show h + (t - h) = t by omega])
      have r1 := hs.isb.at_ 1
      have r8 := hs.isb.at_ 8
      have r9 := hs.isb.at_ 9
      have hE0 : ipE L = 0 := by rw [HE.out, if_neg hform, if_neg f4, if_neg (by omega)]
      have HIS := Lib.hid fun oA oC dA dC => show IpIs L ⟨⟨L.getD 1 0, L.getD 8 0, L.getD 9 0, numL ((L.drop 4).take 2), numL ((L.drop 6).take 2), numL ((L.drop 12).take 4), numL ((L.drop 16).take 4), (L.drop 20).take (h - 20), (L.drop h).take (t - h)⟩, oA, oC, dA, dC⟩ 0 from ⟨hE0.symm, fun _ => HD.out.symm, fun e => absurd rfl e⟩
      have hst0 : St (w2.alloc (.cells #[.slice (some ⟨b, o, none⟩) t c, .int .i64 0, .bool false] 119)) w2.heap.size w.heap.size (some ⟨b, o, none⟩) t c (L.take t) 0 false := ⟨Blk.new w2 _ _, by omega, (hs2.take (k := t) (by omega)).keep ((Below.refl _ _).alloc hbw2.size _), hbw2.size⟩
      have hB3 := Blk.keep hB2 ((Below.refl w2.heap.size w2).alloc (Nat.le_refl _) (.cells #[.slice (some ⟨b, o, none⟩) t c, .int .i64 0, .bool false] 119))
      have hbw3 := hbw2.alloc hbw2.size (.cells #[.slice (some ⟨b, o, none⟩) t c, .int .i64 0, .bool false] 119)
      have hgB := hbw2.size
      have hgne : w2.heap.size ≠ w.heap.size := by have := hB2.lt; omega
      generalize hgg : w2.heap.size = g at *
      clear rdq rd1 hLt hE0 hs1 hs2 hB2 hbw2 hb2 hB0 hbw1 hb1
      generalize L.getD 1 0 = tos at *
      generalize L.getD 8 0 = ttl at *
      generalize L.getD 9 0 = pro at *
      generalize numL ((L.drop 4).take 2) = idn at *
      generalize numL ((L.drop 6).take 2) = frg at *
      generalize numL ((L.drop 12).take 4) = srcn at *
      generalize numL ((L.drop 16).take 4) = dstn at *
      generalize (L.drop 20).take (h - 20) = OL at *
      generalize (L.drop h).take (t - h) = DL at *
      generalize L.take t = Lt at *
      generalize w2.alloc (.cells #[.slice (some ⟨b, o, none⟩) t c, .int .i64 0, .bool false] 119) = w3 at *
      go_wp2_with fail
      refine (hst0.u8 Q0.out).mono ?_
      rintro e w4 ⟨rfl, hst4, hg4⟩
      have hB4 := hB3.grown hg4 (by simp; omega)
      have hbw4 := hbw3.trans (below_of_only' hg4 hgB hbw3.size)
      go_wp2_with fail
      refine (hst4.u8 Q1.out).mono ?_
      rintro e w5 ⟨rfl, hst5, hg5⟩
      have hB5 := hB4.grown hg5 (by simp; omega)
      have hbw5 := hbw4.trans (below_of_only' hg5 hgB hbw4.size)
      go_wp2_with fail
      have hstA := hst5.alloc (.cells #[.int .u8 tos, .int .u8 0, .int .u8 0, .int .u16 0, .int .u16 0, .int .u32 0, .int .u32 0, .slice none 0 0, .slice none 0 0] 29)
      have hxA := Blk.new w5 29 #[.int .u8 tos, .int .u8 0, .int .u8 0, .int .u16 0, .int .u16 0, .int .u32 0, .int .u32 0, .slice none 0 0, .slice none 0 0]
      have hBA := hB5.keep ((Below.refl w5.heap.size w5).alloc (Nat.le_refl _) (.cells #[.int .u8 tos, .int .u8 0, .int .u8 0, .int .u16 0, .int .u16 0, .int .u32 0, .int .u32 0, .slice none 0 0, .slice none 0 0] 29))
      have hbwA := hbw5.alloc hbw5.size (.cells #[.int .u8 tos, .int .u8 0, .int .u8 0, .int .u16 0, .int .u16 0, .int .u32 0, .int .u32 0, .slice none 0 0, .slice none 0 0] 29)
      have hq1 : w.heap.size < w5.heap.size := hB5.lt
      have hq2 : g < w5.heap.size := hst5.lt
      generalize hyy : w5.heap.size = y at *
      have hyB : w.heap.size ≠ y := by omega
      have hyg : g ≠ y := by omega
      refine (hstA.u16 Q2.out).mono ?_
      rintro e w6 ⟨rfl, hst6, hg6⟩
      have hB6 := hBA.grown hg6 (by simp; omega)
      have hx6 := hxA.grown hg6 (by simp; omega)
      have hbw6 := hbwA.trans (below_of_only' hg6 hgB hbwA.size)
      go_wp2_with fail
      refine (hst6.u16 Q4.out).mono ?_
      rintro e w7 ⟨rfl, hst7, hg7⟩
      have hB7 := hB6.grown hg7 (by simp; omega)
      have hx7 := hx6.grown hg7 (by simp; omega)
      have hbw7 := hbw6.trans (below_of_only' hg7 hgB hbw6.size)
      go_wp2_with fail
      refine (hst7.u16 Q6.out).mono ?_
      rintro e w8 ⟨rfl, hst8, hg8⟩
      have hB8 := hB7.grown hg8 (by simp; omega)
      have hx8 := hx7.grown hg8 (by simp; omega)
      have hbw8 := hbw7.trans (below_of_only' hg8 hgB hbw7.size)
      have c8_3 := hx8.cell 3
      have m8_3 := hx8.frozen 3
      have c8_4 := hx8.cell 4
      have m8_4 := hx8.frozen 4
      go_wp2_with fail
      have hstS8 := ((hst8.set_ (show g < y by omega) 3 (.int .u16 idn)).set_ (show g < y by omega) 4 (.int .u16 frg))
      have hxS8 : Blk ((w8.setCell ⟨y, 3, none⟩ (.int .u16 idn)).setCell ⟨y, 4, none⟩ (.int .u16 frg)) y 29 #[.int .u8 tos, .int .u8 0, .int .u8 0, .int .u16 idn, .int .u16 frg, .int .u32 0, .int .u32 0, .slice none 0 0, .slice none 0 0] := ((hx8.set_ 3 (.int .u16 idn)).set_ 4 (.int .u16 frg))
      have hBS8 := ((hB8.setOther hyB 3 (.int .u16 idn)).setOther hyB 4 (.int .u16 frg))
      have hbwS8 := ((hbw8.setCell (p := ⟨y, 3, none⟩) (show w.heap.size ≤ y by omega) (.int .u16 idn)).setCell (p := ⟨y, 4, none⟩) (show w.heap.size ≤ y by omega) (.int .u16 frg))
      clear c8_3 m8_3 c8_4 m8_4
      generalize ((w8.setCell ⟨y, 3, none⟩ (.int .u16 idn)).setCell ⟨y, 4, none⟩ (.int .u16 frg)) = v8 at *
      refine (hstS8.u8 Q8.out).mono ?_
      rintro e w9 ⟨rfl, hst9, hg9⟩
      have hB9 := hBS8.grown hg9 (by simp; omega)
      have hx9 := hxS8.grown hg9 (by simp; omega)
      have hbw9 := hbwS8.trans (below_of_only' hg9 hgB hbwS8.size)
      go_wp2_with fail
      refine (hst9.u8 Q9.out).mono ?_
      rintro e w10 ⟨rfl, hst10, hg10⟩
      have hB10 := hB9.grown hg10 (by simp; omega)
      have hx10 := hx9.grown hg10 (by simp; omega)
      have hbw10 := hbw9.trans (below_of_only' hg10 hgB hbw9.size)
      have c10_1 := hx10.cell 1
      have m10_1 := hx10.frozen 1
      have c10_2 := hx10.cell 2
      have m10_2 := hx10.frozen 2
      go_wp2_with fail
      have hstS10 := ((hst10.set_ (show g < y by omega) 1 (.int .u8 ttl)).set_ (show g < y by omega) 2 (.int .u8 pro))
      have hxS10 : Blk ((w10.setCell ⟨y, 1, none⟩ (.int .u8 ttl)).setCell ⟨y, 2, none⟩ (.int .u8 pro)) y 29 #[.int .u8 tos, .int .u8 ttl, .int .u8 pro, .int .u16 idn, .int .u16 frg, .int .u32 0, .int .u32 0, .slice none 0 0, .slice none 0 0] := ((hx10.set_ 1 (.int .u8 ttl)).set_ 2 (.int .u8 pro))
      have hBS10 := ((hB10.setOther hyB 1 (.int .u8 ttl)).setOther hyB 2 (.int .u8 pro))
      have hbwS10 := ((hbw10.setCell (p := ⟨y, 1, none⟩) (show w.heap.size ≤ y by omega) (.int .u8 ttl)).setCell (p := ⟨y, 2, none⟩) (show w.heap.size ≤ y by omega) (.int .u8 pro))
      clear c10_1 m10_1 c10_2 m10_2
      generalize ((w10.setCell ⟨y, 1, none⟩ (.int .u8 ttl)).setCell ⟨y, 2, none⟩ (.int .u8 pro)) = v10 at *
      refine (hstS10.u16 Q10.out).mono ?_
      rintro e w11 ⟨rfl, hst11, hg11⟩
      have hB11 := hBS10.grown hg11 (by simp; omega)
      have hx11 := hxS10.grown hg11 (by simp; omega)
      have hbw11 := hbwS10.trans (below_of_only' hg11 hgB hbwS10.size)
      go_wp2_with fail
      refine (hst11.u32 Q12.out).mono ?_
      rintro e w12 ⟨rfl, hst12, hg12⟩
      have hB12 := hB11.grown hg12 (by simp; omega)
      have hx12 := hx11.grown hg12 (by simp; omega)
      have hbw12 := hbw11.trans (below_of_only' hg12 hgB hbw11.size)
      go_wp2_with fail
      refine (hst12.u32 Q16.out).mono ?_
      rintro e w13 ⟨rfl, hst13, hg13⟩
      have hB13 := hB12.grown hg13 (by simp; omega)
      have hx13 := hx12.grown hg13 (by simp; omega)
      have hbw13 := hbw12.trans (below_of_only' hg13 hgB hbw12.size)
      have c13_5 := hx13.cell 5
      have m13_5 := hx13.frozen 5
      have c13_6 := hx13.cell 6
      have m13_6 := hx13.frozen 6
      go_wp2_with fail
      have hstS13 := ((hst13.set_ (show g < y by omega) 5 (.int .u32 srcn)).set_ (show g < y by omega) 6 (.int .u32 dstn))
      have hxS13 : Blk ((w13.setCell ⟨y, 5, none⟩ (.int .u32 srcn)).setCell ⟨y, 6, none⟩ (.int .u32 dstn)) y 29 #[.int .u8 tos, .int .u8 ttl, .int .u8 pro, .int .u16 idn, .int .u16 frg, .int .u32 srcn, .int .u32 dstn, .slice none 0 0, .slice none 0 0] := ((hx13.set_ 5 (.int .u32 srcn)).set_ 6 (.int .u32 dstn))
      have hBS13 := ((hB13.setOther hyB 5 (.int .u32 srcn)).setOther hyB 6 (.int .u32 dstn))
      have hbwS13 := ((hbw13.setCell (p := ⟨y, 5, none⟩) (show w.heap.size ≤ y by omega) (.int .u32 srcn)).setCell (p := ⟨y, 6, none⟩) (show w.heap.size ≤ y by omega) (.int .u32 dstn))
      clear c13_5 m13_5 c13_6 m13_6
      generalize ((w13.setCell ⟨y, 5, none⟩ (.int .u32 srcn)).setCell ⟨y, 6, none⟩ (.int .u32 dstn)) = v13 at *
      refine (hstS13.take QT.out).mono ?_
      rintro e w14 ⟨zA14, zC14, rfl, hown14, hst14, hg14⟩
      have hB14 := hBS13.grown hg14 (by simp; omega)
      have hx14 := hxS13.grown hg14 (by simp; omega)
      have hbw14 := hbwS13.trans (below_of_only' hg14 hgB hbwS13.size)
      have c14_7 := hx14.cell 7
      have m14_7 := hx14.frozen 7
      go_wp2_with fail
      have hstS14 := (hst14.set_ (show g < y by omega) 7 (.slice zA14 OL.length zC14))
      have hxS14 : Blk (w14.setCell ⟨y, 7, none⟩ (.slice zA14 OL.length zC14)) y 29 #[.int .u8 tos, .int .u8 ttl, .int .u8 pro, .int .u16 idn, .int .u16 frg, .int .u32 srcn, .int .u32 dstn, .slice zA14 OL.length zC14, .slice none 0 0] := (hx14.set_ 7 (.slice zA14 OL.length zC14))
      have hBS14 := (hB14.setOther hyB 7 (.slice zA14 OL.length zC14))
      have hbwS14 := (hbw14.setCell (p := ⟨y, 7, none⟩) (show w.heap.size ≤ y by omega) (.slice zA14 OL.length zC14))
      have hownO := World.ownsRow.mono (World.ownsRow.kept hown14 (only_set (World.grownBy.refl w14 (some y)) 7 (.slice zA14 OL.length zC14)) (.inr (own_blk_ne hown14 hx14 (by decide)))) hbwS13.size
      clear c14_7 m14_7
      generalize (w14.setCell ⟨y, 7, none⟩ (.slice zA14 OL.length zC14)) = v14 at *
      refine (hstS14.rest QR.out).mono ?_
      rintro e w15 ⟨zA15, zC15, rfl, hown15, hst15, hg15⟩
      have hB15 := hBS14.grown hg15 (by simp; omega)
      have hx15 := hxS14.grown hg15 (by simp; omega)
      have hbw15 := hbwS14.trans (below_of_only' hg15 hgB hbwS14.size)
      have c15_0 := hx15.cell 0
      have c15_1 := hx15.cell 1
      have c15_2 := hx15.cell 2
      have c15_3 := hx15.cell 3
      have c15_4 := hx15.cell 4
      have c15_5 := hx15.cell 5
      have c15_6 := hx15.cell 6
      have c15_7 := hx15.cell 7
      have c15_8 := hx15.cell 8
      have m15_8 := hx15.frozen 8
      have hownO2 := World.ownsRow.kept hownO hg15 (.inr (own_blk_ne hownO hstS14.rd (by decide)))
      obtain ⟨⟨p0, p1, p2, p3, p4⟩, p5, p6, p7, p8⟩ := Blk.cells9 hB15
      obtain ⟨⟨k0, k1, k2, k3, k4⟩, k5, k6, k7, k8⟩ := Blk.marks9 hB15
      have hyB' : y ≠ w.heap.size := hyB.symm
      have hownD := World.ownsRow.mono hown15 hbwS14.size
      have hB16 := hB15.setOther hyB 8 (.slice zA15 DL.length zC15)
      have hb16 := hbw15.setCell (p := ⟨y, 8, none⟩) (show w.heap.size ≤ y by omega) (.slice zA15 DL.length zC15)
      have hO16 := World.ownsRow.kept hownO2 (only_set (World.grownBy.refl w15 (some y)) 8 (.slice zA15 DL.length zC15)) (.inr (own_blk_ne hownO2 hx15 (by decide)))
      have hD16 := World.ownsRow.kept hownD (only_set (World.grownBy.refl w15 (some y)) 8 (.slice zA15 DL.length zC15)) (.inr (own_blk_ne hownD hx15 (by decide)))
      obtain ⟨vs, hvs⟩ : ∃ vs : List Value, vs = [.int .u8 tos, .int .u8 ttl, .int .u8 pro, .int .u16 idn, .int .u16 frg, .int .u32 srcn, .int .u32 dstn, .slice zA14 OL.length zC14, .slice zA15 DL.length zC15] := ⟨_, rfl⟩
      have hO17 := World.ownsRow.kept hO16 (own_sets _ w.heap.size vs 0 (World.grownBy.refl _ (some w.heap.size))) (.inr (own_blk_ne hO16 hB16 (by decide)))
      have hD17 := World.ownsRow.kept hD16 (own_sets _ w.heap.size vs 0 (World.grownBy.refl _ (some w.heap.size))) (.inr (own_blk_ne hD16 hB16 (by decide)))
      have hb17 := back_sets vs 0 hb16
      rw [hvs] at hO17 hD17 hb17
      clear hO16 hD16 hb16 hB16 hownD hownO2 hownO hown14 hown15 hvs hst0 hB3 hbw3
      go_wp2_with fail
      refine bodyPost_ret (v := .tuple #[.agg #[.int .u8 tos, .int .u8 ttl, .int .u8 pro, .int .u16 idn, .int .u16 frg, .int .u32 srcn, .int .u32 dstn, .slice zA14 OL.length zC14, .slice zA15 DL.length zC15], .int .i64 0]) (by simp [results, Try.results87, go_sem, *]) rfl ?_
      exact ⟨_, 0, rfl, HIS.out zA14 zC14 zA15 zC15, hO17, hD17, hb17⟩
    · have g5 : (ckS (L.take h) == 0) = false := by simpa using f5
      rw [g5] at SR
      go_wp2_with fail
      refine SR.out.mono ?_
      rintro e w2 ⟨rfl, hb2⟩
      clear SR c0 c1 c2 c3 c4 c5 c6 c7 c8 m0 m1 m2 m3 m4 m5 m6 m7 m8 hzb h1
      have hB2 := Blk.keep hB0 hb2
      have hbw2 := below_on hbw1 hb2
      obtain ⟨⟨c0, c1, c2, c3, c4⟩, c5, c6, c7, c8⟩ := Blk.cells9 hB2
      obtain ⟨⟨m0, m1, m2, m3, m4⟩, m5, m6, m7, m8⟩ := Blk.marks9 hB2
      have hzb := zero_back hbw2 hB2
      have HI := Lib.hid (ip_err (show ipE L = 50 by rw [HE.out, if_neg hform, if_neg f4, if_pos f5]) (by omega))
      go_wp2_with fail
      refine bodyPost_ret (v := .tuple #[.agg dgZero.cells.toArray, .int .i64 50]) (by simp [results, Try.results87, go_sem, dgZero, DGR.cells, *]) rfl ?_
      exact ⟨dgZero, 50, rfl, HI.out, World.ownsRow_nil _ _ _ _, World.ownsRow_nil _ _ _ _, hzb⟩
  · have g1 : (x / 16 != 4) = true := by simpa using f1
    have HI := Lib.hid (ip_err (show ipE L = 11 by rw [HE.out, if_pos (.inl f1)]) (by omega))
    go_wp2_with fail
    refine bodyPost_ret (v := .tuple #[.agg dgZero.cells.toArray, .int .i64 11]) (by simp [results, Try.results87, go_sem, dgZero, DGR.cells, *]) rfl ?_
    exact ⟨dgZero, 11, rfl, HI.out, World.ownsRow_nil _ _ _ _, World.ownsRow_nil _ _ _ _, hzb⟩
end Go.Proofs.Ytnbokpfkcfhgbaa
