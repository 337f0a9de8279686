/- A walk of acl.List.Through. -/
import Derived.Test.YtnbokpfkcfhgbaaRefIp4
import Derived.Test.YtnbokpfkcfhgbaaAclFindsLaw
import Derived.Test.YtnbokpfkcfhgbaaTapeRead
namespace Go.Proofs.Ytnbokpfkcfhgbaa
open Go Go.RowKit
attribute [local go_sem ↓] Go.wp_at_zero Go.wp_at_succ

/-- A slice of bytes as it lies, and what it reads as. -/
structure SB where
  A : Option Addr
  n : Nat
  c : Nat
  L : List Int
def SB.cells (x : SB) : List Value := [.slice x.A x.n x.c]
def goB (rs : List Rule) (L : List Int) : Bool := (ipE L == 0) && mayB rs (ipD L).proto (ipD L).src (ipD L).dst
def keptL (rs : List Rule) (bs : List SB) (i : Nat) : List SB := (bs.take i).filter fun x => goB rs x.L
theorem keptL_succ {rs : List Rule} {bs : List SB} {i : Nat} {x : SB} (h : bs[i]? = some x) : keptL rs bs (i + 1) = keptL rs bs i ++ (if goB rs x.L = true then [x] else []) := by
  unfold keptL
  rw [List.take_add_one, h, List.filter_append]
  congr 1
  by_cases hg : goB rs x.L = true
  · simp [hg]
  · simp [hg]
theorem keptL_len {rs : List Rule} {bs : List SB} {i : Nat} : (keptL rs bs i).length ≤ i := by
  unfold keptL
  exact Nat.le_trans (List.length_filter_le _ _) (by simp; omega)
theorem ip_bounds {L : List Int} (hB : IsB L) {d : DGR} {code : Int} (h : IpIs L d code) : 0 ≤ d.src ∧ d.src < 4294967296 ∧ 0 ≤ d.dst ∧ d.dst < 4294967296 := by
  by_cases hc : code = 0
  · have e := h.2.1 hc
    have e1 : d.src = numL ((L.drop 12).take 4) := by have := congrArg DG.src e; exact this
    have e2 : d.dst = numL ((L.drop 16).take 4) := by have := congrArg DG.dst e; exact this
    have b1 := numL_top 4 (by omega) ((L.drop 12).take 4) (by simp; omega) ((hB.drop _).take _)
    have b2 := numL_top 4 (by omega) ((L.drop 16).take 4) (by simp; omega) ((hB.drop _).take _)
    rw [e1, e2]
    omega
  · have e := h.2.2 hc
    subst e
    simp [dgZero]
theorem goB_of {rs : List Rule} {L : List Int} {d : DGR} {code : Int} (h : IpIs L d code) : goB rs L = ((code == 0) && mayB rs d.proto d.src d.dst) := by
  unfold goB
  rw [← h.1]
  by_cases hc : code = 0
  · have e := h.2.1 hc
    have e0 : d.proto = (ipD L).proto := congrArg DG.proto e
    have e1 : d.src = (ipD L).src := congrArg DG.src e
    have e2 : d.dst = (ipD L).dst := congrArg DG.dst e
    rw [e0, e1, e2]
  · have : (code == 0) = false := by simpa using hc
    rw [this]
    simp

theorem ei_bb : ElemInfo Try.prog 104 27 (.slice none 0 0) 1 24 := elemInfo_mk Try.underlying104 (by kernel_rfl) rfl (by omega)
theorem sb_one (A : Option Addr) (n c : Nat) : ∀ u ∈ (#[Value.slice A n c] : Array Value).toList, u.oneCell' = true := by
  intro u hu
  simp at hu
  subst hu
  rfl
def ThPost (rs : List Rule) (bs : List SB) (w : World) (e : Ending) (w' : World) : Prop :=
  ∃ (gs : List SB) (v : Value), e = .returned v ∧ w'.ownsRow w.heap.size 27 1 v gs.length (gs.map SB.cells).flatten ∧ gs.map SB.L = (keptL rs bs bs.length).map SB.L ∧ (∀ g ∈ gs, g.L.length = g.n ∧ OwnB w' w.heap.size (.slice g.A g.n g.c) g.L) ∧ Below w.heap.size w w'

set_option maxRecDepth 100000 in
set_option maxHeartbeats 8000000 in
theorem Through_walk (A : Option Addr) (n cap : Nat) (rs : List Rule) (Ab : Option Addr) (nb cb : Nat) (bs : List SB) (w : World) (hn : rs.length = n) (hm : n ≤ maxLen) (hr : Elems w A 6 (rs.map Rule.cells)) (hok : ∀ r ∈ rs, r.ok)
    (hbn : bs.length = nb) (hb20 : nb ≤ 20) (hbs : Elems w Ab 1 (bs.map SB.cells)) (hbok : ∀ x ∈ bs, BSl w w.heap.size x.A x.n x.c x.L ∧ x.n ≤ 300) :
    Calls Try.prog 64 #[.slice A n cap, .slice Ab nb cb] w (ThPost rs bs w) := by
  have HBN := Lib.hid hbn
  have HMAY := Lib.hid fun (W : World) (hW : Below w.heap.size w W) pp src dst v0 v1 v3 v4 v7 v8 h5 h6 h7 h8 => May_walk A n cap rs pp src dst v0 v1 v3 v4 v7 v8 W hn hm (hr.keep hW) hok h5 h6 h7 h8
  clear hn hr hok hbn
  go_enter Try.func64, Try.ntmps64
  go_wp2_with fail
  go_loopw [5, 12] (fun vo iv wr => ∃ (i : Nat) (gs : List SB), iv = .int .i64 i ∧ i ≤ nb ∧ wr.ownsRow w.heap.size 27 1 vo gs.length (gs.map SB.cells).flatten ∧ Hid (gs.map SB.L = (keptL rs bs i).map SB.L) ∧ (∀ g ∈ gs, g.L.length = g.n ∧ OwnB wr w.heap.size (.slice g.A g.n g.c) g.L) ∧ Below w.heap.size w wr) (fun _ iv _ => nb - (intOf iv).toNat)
  case atStart => exact ⟨0, [], rfl, by omega, World.ownsRow_nil _ _ _ _, rfl, by simp, Below.refl _ _⟩
  case round =>
    obtain ⟨i, gs, rfl, hi, hown, hG, hgs, hb⟩ := hrel
    by_cases him : i < nb
    · have hx : bs[i]? = some (bs[i]'(by rw [HBN.out]; exact him)) := List.getElem?_eq_getElem _
      generalize bs[i]'(by rw [HBN.out]; exact him) = x at hx
      obtain ⟨bb, oo, eAb, hhx⟩ := hbs i x.cells (by rw [List.getElem?_map, hx]; rfl)
      have hxok := hbok x (List.mem_of_getElem? hx)
      have hks := keptL_succ (rs := rs) hx
      have hgl : gs.length ≤ i := by have := congrArg List.length hG.out; simp only [List.length_map] at this; rw [this]; exact keptL_len
      obtain ⟨xA, xn, xc, xL⟩ := x
      simp only at hxok hks
      have hhr := hhx.keep hb
      simp only [SB.cells, elemL, Holds.cons, Holds.nil, and_true, Nat.mul_one] at hhr
      have hxw := (hxok.1.keep hb)
      subst eAb
      have HKS := Lib.hid hks
      clear hks hx hhx
      go_wp2_with fail
      refine (ip4Parse_any xA xn xc xL wr (hxw.mono hb.size)).mono ?_
      rintro e w1 ⟨d, code, rfl, hip, _, _, hb1⟩
      have hbd := ip_bounds hxw.isb hip
      have hgo := goB_of (rs := rs) hip
      obtain ⟨⟨tos, ttl, pro, idn, frg, srcn, dstn, OL, DL⟩, oA, oC, dA, dC⟩ := d
      simp only at hbd hgo
      simp only [DGR.cells]
      have HGO := Lib.hid hgo
      have hbw1 := hb.trans (hb1.mono hb.size)
      clear hip hgo
      have hba := hb1.alloc hb1.size (.cells #[.int .u8 tos, .int .u8 ttl, .int .u8 pro, .int .u16 idn, .int .u16 frg, .int .u32 srcn, .int .u32 dstn, .slice oA OL.length oC, .slice dA DL.length dC] 29)
      have hbwa := hbw1.alloc hbw1.size (.cells #[.int .u8 tos, .int .u8 ttl, .int .u8 pro, .int .u16 idn, .int .u16 frg, .int .u32 srcn, .int .u32 dstn, .slice oA OL.length oC, .slice dA DL.length dC] 29)
      by_cases hcode : code = 0
      · subst hcode
        go_wp2_with fail
        refine (HMAY.out _ hbwa pro srcn dstn _ _ _ _ _ _ hbd.1 hbd.2.1 hbd.2.2.1 hbd.2.2.2).mono ?_
        rintro e w2 ⟨rfl, hb2⟩
        have hbr2 := below_on hba hb2
        have hbw2 := below_on hbwa hb2
        generalize hmm : mayB rs pro srcn dstn = mm at *
        cases mm with
        | true =>
          have hgo' : goB rs xL = true := by rw [HGO.out]; simp
          have HK2 := Lib.hid (show keptL rs bs (i + 1) = keptL rs bs i ++ [⟨xA, xn, xc, xL⟩] by rw [HKS.out, hgo']; simp)
          have hown2 := own_below hown hbr2
          have hx2 := hxok.1.keep hbw2
          have hxn := hxok.2
          have HEX := Lib.hid hx2.els
          have HNX := Lib.hid (show (nums .u8 xL).length = xn by rw [nums_length]; exact hx2.len)
          have hxl := hx2.len
          have hy1 : 0 + xn ≤ maxLen := by unfold maxLen; omega
          have hy2 : (0 + xn) * 1 ≤ 140737488355328 := by omega
          have hx1 : gs.length + 1 ≤ maxLen := by unfold maxLen; omega
          have hx2' : (gs.length + 1) * 24 ≤ 140737488355328 := by omega
          clear hgo' HMAY hown hxl
          have HXL := Lib.hid hx2.len
          go_wp2_with (first | (at_builtin; refine wpList_appS rfl _ _ _ rfl w.heap.size 5 _ 1 1 ei_byte _ 0 _ (by rfl) (World.ownsRow_nil _ _ _ _) xA xn xc (nums .u8 xL) (by rfl) HEX.out HNX.out (nums_one _ _) (nums_cells_one _ _) hy1 hy2 hbw2.size ?_; intro v1 w3 hown3 hg3; have hownC : OwnB w3 w.heap.size v1 xL := own_appS (L := []) hown3 rfl HXL.out; obtain ⟨gA, gc, e3, _, _, _⟩ := own_read hownC; subst e3; have hownR := own_below hown2 (Grew.nil hg3); have hbw3 := below_on hbw2 (Grew.nil hg3)) | (at_builtin; refine wpList_appG rfl _ _ _ rfl w.heap.size 27 _ 1 24 ei_bb _ gs.length _ (by rfl) hownR 1 #[.slice gA xL.length gc] rfl rfl rfl (sb_one _ _ _) hx1 hx2' hbw3.size ?_; intro v2 w4 hown4 hg4))
          have hbw4 := hg4.below hownR hbw3 hbw3.size
          have hgs4 : ∀ g ∈ gs ++ [(⟨gA, xL.length, gc, xL⟩ : SB)], g.L.length = g.n ∧ OwnB w4 w.heap.size (.slice g.A g.n g.c) g.L := by
            intro g hg
            rcases List.mem_append.1 hg with h | h
            · have h2 := own_below (own_below (hgs g h).2 hbr2) (Grew.nil hg3)
              exact ⟨(hgs g h).1, World.ownsRow.kept h2 hg4.grown (own_own_ne h2 hownR (by decide))⟩
            · rw [List.mem_singleton] at h
              subst h
              exact ⟨rfl, World.ownsRow.kept hownC hg4.grown (own_own_ne hownC hownR (by decide))⟩
          have hown5 : w4.ownsRow w.heap.size 27 1 v2 (gs ++ [(⟨gA, xL.length, gc, xL⟩ : SB)]).length ((gs ++ [(⟨gA, xL.length, gc, xL⟩ : SB)]).map SB.cells).flatten := by
            simpa [SB.cells] using hown4
          have HG5 := Lib.hid (show (gs ++ [(⟨gA, xL.length, gc, xL⟩ : SB)]).map SB.L = (keptL rs bs (i + 1)).map SB.L by rw [HK2.out, List.map_append, List.map_append, hG.out]; rfl)
          clear hown4 hg4 hownC hownR hown2 hg3 hown3 HEX HNX hgs hx1 hx2' hy1 hy2
          go_wp2_with fail
          go_roundw
          case rel => exact ⟨i + 1, gs ++ [⟨gA, xL.length, gc, xL⟩], by go_num, by omega, hown5, HG5, hgs4, hbw4⟩
          case measure => simp [intOf]; omega
        | false =>
          have hgo' : goB rs xL = false := by rw [HGO.out]; simp
          have HK2 := Lib.hid (show keptL rs bs (i + 1) = keptL rs bs i by rw [HKS.out, hgo']; simp)
          clear hgo'
          go_wp2_with fail
          go_roundw
          case rel => exact ⟨i + 1, gs, by go_num, by omega, own_below hown hbr2, by rw [HK2.out]; exact hG.out, fun g hg => ⟨(hgs g hg).1, own_below (hgs g hg).2 hbr2⟩, hbw2⟩
          case measure => simp [intOf]; omega
      · have hc0 : (code == 0) = false := by simpa using hcode
        have hgo' : goB rs xL = false := by rw [HGO.out, hc0]; rfl
        have HK2 := Lib.hid (show keptL rs bs (i + 1) = keptL rs bs i by rw [HKS.out, hgo']; simp)
        clear hgo'
        go_wp2_with fail
        go_roundw
        case rel => exact ⟨i + 1, gs, by go_num, by omega, own_below hown hba, by rw [HK2.out]; exact hG.out, fun g hg => ⟨(hgs g hg).1, own_below (hgs g hg).2 hba⟩, hbwa⟩
        case measure => simp [intOf]; omega
    · obtain rfl : i = nb := by omega
      have hG2 := hG
      rw [← HBN.out] at hG2
      go_wp2_with fail
      go_ret
      exact ⟨gs, _, rfl, hown, hG2.out, hgs, hb⟩
end Go.Proofs.Ytnbokpfkcfhgbaa
