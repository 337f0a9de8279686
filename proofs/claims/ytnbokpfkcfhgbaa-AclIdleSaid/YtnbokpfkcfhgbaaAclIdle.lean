/- AclIdle: of any rules and any datagram the law returns true, and its arguments read as before. No condition. -/
import Derived.Test.YtnbokpfkcfhgbaaRows
import Derived.Test.YtnbokpfkcfhgbaaTypes
import Derived.Test.YtnbokpfkcfhgbaaAclFindsLaw
import Derived.Test.YtnbokpfkcfhgbaaAclIdleW
import Derived.ChangeOld
namespace Go.Proofs.Ytnbokpfkcfhgbaa
open Go Go.RowKit Go.ChangeShapes Go.WideShapes Go.ChangeAt Go.Deep
attribute [local go_sem ↓] Go.wp_at_zero Go.wp_at_succ

set_option maxRecDepth 100000 in
set_option maxHeartbeats 16000000 in
theorem AclIdle_walk (A : Option Addr) (n cap : Nat) (rs : List Rule) (pp src dst : Int) (v0 v1 v3 v4 v7 v8 : Value) (w : World) (hn : rs.length = n) (hcap : n ≤ cap) (hm : cap ≤ maxLen) (hr : Elems w A 6 (rs.map Rule.cells)) (hok : ∀ r ∈ rs, r.ok)
    (h5 : 0 ≤ src) (h6 : src < 4294967296) (h7 : 0 ≤ dst) (h8 : dst < 4294967296) :
    Calls Try.prog 9 #[.slice A n cap, .agg #[v0, v1, .int .u8 pp, v3, v4, .int .u32 src, .int .u32 dst, v7, v8]] w
      (Pure w (.bool true)) := by
  by_cases h50 : 50 < n
  · unfold maxLen at hm
    clear hn hr hok
    go_enter Try.func9, Try.ntmps9
    go_wp2_with fail
    go_ret
    exact ⟨rfl, below_new (Below.refl _ _)⟩
  have HF := Lib.hid fun w' hr' => Find_walk A n cap rs pp src dst v0 v1 v3 v4 v7 v8 w' hn (Nat.le_trans hcap hm) hr' hok h5 h6 h7 h8
  have HI := Lib.hid fun w' hr' => Idle_walk A n cap rs w' hn hcap hm (by omega) hr' hok
  unfold maxLen at hm
  have HN := Lib.hid hn
  clear hn
  go_enter Try.func9, Try.ntmps9
  go_wp2_with fail
  have hd0 := elemL_new w #[v0, v1, .int .u8 pp, v3, v4, .int .u32 src, .int .u32 dst, v7, v8] 29
  obtain ⟨w0, hw0⟩ : ∃ w0, w0 = w.alloc (.cells #[v0, v1, .int .u8 pp, v3, v4, .int .u32 src, .int .u32 dst, v7, v8] 29) := ⟨_, rfl⟩
  rw [← hw0] at hd0 ⊢
  have hb0 : Below w.heap.size w w0 := by rw [hw0]; exact below_new (Below.refl _ _)
  have hrr := hr.keep hb0
  clear hw0 hr
  go_loopw [5, 6] (fun v iv wr => ∃ i : Nat, iv = .int .i64 i ∧ i ≤ n ∧ wr.ownsRow w0.heap.size 3 1 v (idleN rs i).length ((idleN rs i).map (Value.int .i64)) ∧ Below w0.heap.size w0 wr) (fun _ iv _ => n - (intOf iv).toNat)
  case atStart => exact ⟨0, rfl, by omega, World.ownsRow_nil _ _ _ _, Below.refl _ _⟩
  case round =>
    obtain ⟨i, rfl, hi, hown, hb⟩ := hrel
    by_cases hlt : i < n
    · have hlt' : i < rs.length := by rw [HN.out]; exact hlt
      have hlen := idleN_len rs i
      obtain ⟨b, o, hA, hh⟩ := hrr i rs[i].cells (by simp [hlt'])
      subst hA
      have hri : rs[i]? = some rs[i] := List.getElem?_eq_getElem hlt'
      have hL := hh.keep hb
      obtain ⟨r1, r2, r3, r4⟩ := hok rs[i] (List.getElem_mem _)
      generalize rs[i] = r at *
      cases r with | mk rp rfa rfb rta rtb rm =>
      simp only at r1 r2 r3 r4
      have HRI := Lib.hid hri
      clear hri hh
      simp only [Rule.cells] at hL
      obtain ⟨wo, rfl⟩ : ∃ wo : World, wo = wr := ⟨_, rfl⟩
      obtain ⟨vo, rfl⟩ : ∃ vo : Value, vo = u5 := ⟨_, rfl⟩
      go_wp2
      go_loopw [5, 7] (fun v5 kv wi => ∃ k : Nat, v5 = vo ∧ kv = .int .i64 k ∧ k ≤ i ∧ Below wo.heap.size wo wi
        ∧ Hid (∀ j, j < k → ∀ q, rs[j]? = some q → covB q ⟨rp, rfa, rfb, rta, rtb, rm⟩ = false)) (fun _ kv _ => i - (intOf kv).toNat)
      case atStart => exact ⟨0, rfl, rfl, by omega, Below.refl _ _, fun j hj => by omega⟩
      case round =>
        obtain ⟨k, rfl, rfl, hk, hbk, HK⟩ := hrel
        by_cases hki : k < i
        · have hkl : k < rs.length := by rw [HN.out]; omega
          obtain ⟨b2, o2, hA2, hq⟩ := hrr k rs[k].cells (by simp [hkl])
          cases hA2
          have hqi : rs[k]? = some rs[k] := List.getElem?_eq_getElem hkl
          have hQ := hq.keep (below_on hb hbk)
          obtain ⟨q1, q2, q3, q4⟩ := hok rs[k] (List.getElem_mem _)
          generalize rs[k] = q at *
          cases q with | mk qp qfa qfb qta qtb qm =>
          simp only at q1 q2 q3 q4
          have HQI := Lib.hid hqi
          clear hqi hq
          have hbox := Holds.append ((hL.keep hbk).keep ((Below.refl _ _).alloc (Nat.le_refl _) (.cells #[.int .u8 qp, .int .u32 qfa, .int .i64 qfb, .int .u32 qta, .int .i64 qtb, .bool qm] 34))) (elemL_new wr #[.int .u8 qp, .int .u32 qfa, .int .i64 qfb, .int .u32 qta, .int .i64 qtb, .bool qm] 34)
          simp only [Rule.cells, elemL, Holds.cons, Holds.nil, and_true] at hQ
          have HCV : Hid (covB ⟨qp, qfa, qfb, qta, qtb, qm⟩ ⟨rp, rfa, rfb, rta, rtb, rm⟩ = covF qp qfa qfb qta qtb rp rfa rfb rta rtb) := rfl
          have HW1 := Lib.hid fun W => refWithin_any rfa rfb qfa qfb W r1 r2 q1 q2
          have HW2 := Lib.hid fun W => refWithin_any rta rtb qta qtb W r3 r4 q3 q4
          cases c1 : (qp == 0 || qp == rp)
          ·
            have hcv : covF qp qfa qfb qta qtb rp rfa rfb rta rtb = false := by simp [covF, c1]
            have c2 : (qp == 0) = false := by revert c1; cases (qp == 0) <;> simp
            have c3 : (qp == rp) = false := by revert c1; cases (qp == rp) <;> simp
            clear c1
            have HK' : Hid (∀ j, j < k + 1 → ∀ q, rs[j]? = some q → covB q ⟨rp, rfa, rfb, rta, rtb, rm⟩ = false) := fun j hj q hq => by
              by_cases e : j = k
              · subst e
                rw [HQI.out] at hq
                cases hq
                rw [HCV.out, hcv]
              · exact HK.out j (by omega) q hq
            clear hcv
            go_wp2_with fail
            refine wp_region_calm _ hbox (by kernel_rfl) (by kernel_rfl) (fun hS => ?_)
            simp only [elemL, List.cons_append, List.nil_append, Holds.cons, Holds.nil, and_true, Nat.add_zero] at hS
            repeat (go_big_quiet_step ((fail)))
            refine wpQuiet_nil ?_
            clear hS
            intro w1 hb1 hS1
            simp only [elemL, List.cons_append, List.nil_append, Holds.cons, Holds.nil, and_true, Nat.add_zero] at hS1
            clear hS1
            go_wp2_with fail
            go_roundw
            case rel => exact ⟨k + 1, rfl, by go_num, by omega, below_on hbk (below_new hb1), HK'⟩
            case measure => simp [intOf]; omega
          ·
            have hor : (qp == 0) = true ∨ ((qp == 0) = false ∧ (qp == rp) = true) := by
              revert c1; cases (qp == 0) <;> simp
            cases g1 : withinB rfa rfb qfa qfb
            ·
              have hcv : covF qp qfa qfb qta qtb rp rfa rfb rta rtb = false := by simp [covF, g1]
              have HK' : Hid (∀ j, j < k + 1 → ∀ q, rs[j]? = some q → covB q ⟨rp, rfa, rfb, rta, rtb, rm⟩ = false) := fun j hj q hq => by
                by_cases e : j = k
                · subst e
                  rw [HQI.out] at hq
                  cases hq
                  rw [HCV.out, hcv]
                · exact HK.out j (by omega) q hq
              clear hcv
              have HX1 := Lib.hid fun W => g1 ▸ HW1.out W
              clear c1 g1
              rcases hor with c2 | ⟨c2, c3⟩
              ·
                go_wp2_with fail
                refine wp_region_calm _ hbox (by kernel_rfl) (by kernel_rfl) (fun hS => ?_)
                simp only [elemL, List.cons_append, List.nil_append, Holds.cons, Holds.nil, and_true, Nat.add_zero] at hS
                repeat (go_big_quiet_step ((first | (go_at_call_of 47 (Value.agg #[Value.int IntKind.u32 rfa, Value.int IntKind.i64 rfb]); exact calm_of (HX1.out _)))))
                refine wpQuiet_nil ?_
                clear hS
                intro w1 hb1 hS1
                simp only [elemL, List.cons_append, List.nil_append, Holds.cons, Holds.nil, and_true, Nat.add_zero] at hS1
                clear hS1
                go_wp2_with fail
                go_roundw
                case rel => exact ⟨k + 1, rfl, by go_num, by omega, below_on hbk (below_new hb1), HK'⟩
                case measure => simp [intOf]; omega
              ·
                go_wp2_with fail
                refine wp_region_calm _ hbox (by kernel_rfl) (by kernel_rfl) (fun hS => ?_)
                simp only [elemL, List.cons_append, List.nil_append, Holds.cons, Holds.nil, and_true, Nat.add_zero] at hS
                repeat (go_big_quiet_step ((first | (go_at_call_of 47 (Value.agg #[Value.int IntKind.u32 rfa, Value.int IntKind.i64 rfb]); exact calm_of (HX1.out _)))))
                refine wpQuiet_nil ?_
                clear hS
                intro w1 hb1 hS1
                simp only [elemL, List.cons_append, List.nil_append, Holds.cons, Holds.nil, and_true, Nat.add_zero] at hS1
                clear hS1
                go_wp2_with fail
                go_roundw
                case rel => exact ⟨k + 1, rfl, by go_num, by omega, below_on hbk (below_new hb1), HK'⟩
                case measure => simp [intOf]; omega
            ·
              cases g2 : withinB rta rtb qta qtb
              ·
                have hcv : covF qp qfa qfb qta qtb rp rfa rfb rta rtb = false := by simp [covF, g2]
                have HK' : Hid (∀ j, j < k + 1 → ∀ q, rs[j]? = some q → covB q ⟨rp, rfa, rfb, rta, rtb, rm⟩ = false) := fun j hj q hq => by
                  by_cases e : j = k
                  · subst e
                    rw [HQI.out] at hq
                    cases hq
                    rw [HCV.out, hcv]
                  · exact HK.out j (by omega) q hq
                clear hcv
                have HX1 := Lib.hid fun W => g1 ▸ HW1.out W
                have HX2 := Lib.hid fun W => g2 ▸ HW2.out W
                clear c1 g1 g2
                rcases hor with c2 | ⟨c2, c3⟩
                ·
                  go_wp2_with fail
                  refine wp_region_calm _ hbox (by kernel_rfl) (by kernel_rfl) (fun hS => ?_)
                  simp only [elemL, List.cons_append, List.nil_append, Holds.cons, Holds.nil, and_true, Nat.add_zero] at hS
                  repeat (go_big_quiet_step ((first | (go_at_call_of 47 (Value.agg #[Value.int IntKind.u32 rfa, Value.int IntKind.i64 rfb]); exact calm_of (HX1.out _)) | (go_at_call_of 47 (Value.agg #[Value.int IntKind.u32 rta, Value.int IntKind.i64 rtb]); exact calm_of (HX2.out _)))))
                  refine wpQuiet_nil ?_
                  clear hS
                  intro w1 hb1 hS1
                  simp only [elemL, List.cons_append, List.nil_append, Holds.cons, Holds.nil, and_true, Nat.add_zero] at hS1
                  clear hS1
                  go_wp2_with fail
                  go_roundw
                  case rel => exact ⟨k + 1, rfl, by go_num, by omega, below_on hbk (below_new hb1), HK'⟩
                  case measure => simp [intOf]; omega
                ·
                  go_wp2_with fail
                  refine wp_region_calm _ hbox (by kernel_rfl) (by kernel_rfl) (fun hS => ?_)
                  simp only [elemL, List.cons_append, List.nil_append, Holds.cons, Holds.nil, and_true, Nat.add_zero] at hS
                  repeat (go_big_quiet_step ((first | (go_at_call_of 47 (Value.agg #[Value.int IntKind.u32 rfa, Value.int IntKind.i64 rfb]); exact calm_of (HX1.out _)) | (go_at_call_of 47 (Value.agg #[Value.int IntKind.u32 rta, Value.int IntKind.i64 rtb]); exact calm_of (HX2.out _)))))
                  refine wpQuiet_nil ?_
                  clear hS
                  intro w1 hb1 hS1
                  simp only [elemL, List.cons_append, List.nil_append, Holds.cons, Holds.nil, and_true, Nat.add_zero] at hS1
                  clear hS1
                  go_wp2_with fail
                  go_roundw
                  case rel => exact ⟨k + 1, rfl, by go_num, by omega, below_on hbk (below_new hb1), HK'⟩
                  case measure => simp [intOf]; omega
              ·
                have hcv : covF qp qfa qfb qta qtb rp rfa rfb rta rtb = true := by simp [covF, g1, g2, c1]
                have hat : covAt rs i = true := covAt_yes HRI.out hki HQI.out (by rw [HCV.out, hcv])
                have hnx := idleN_yes hat
                have HNX := Lib.hid hnx
                have HX1 := Lib.hid fun W => g1 ▸ HW1.out W
                have HX2 := Lib.hid fun W => g2 ▸ HW2.out W
                clear hcv hat hnx g1 g2
                have hx1 : (idleN rs i).length + 1 ≤ maxLen := by unfold maxLen; omega
                have hx2 : ((idleN rs i).length + 1) * 8 ≤ 140737488355328 := by omega
                clear c1
                rcases hor with c2 | ⟨c2, c3⟩
                ·
                  go_wp2_with fail
                  refine wp_region_calm _ hbox (by kernel_rfl) (by kernel_rfl) (fun hS => ?_)
                  simp only [elemL, List.cons_append, List.nil_append, Holds.cons, Holds.nil, and_true, Nat.add_zero] at hS
                  repeat (go_big_quiet_step ((first | (go_at_call_of 47 (Value.agg #[Value.int IntKind.u32 rfa, Value.int IntKind.i64 rfb]); exact calm_of (HX1.out _)) | (go_at_call_of 47 (Value.agg #[Value.int IntKind.u32 rta, Value.int IntKind.i64 rtb]); exact calm_of (HX2.out _)))))
                  refine wpQuiet_nil ?_
                  clear hS
                  intro w1 hb1 hS1
                  simp only [elemL, List.cons_append, List.nil_append, Holds.cons, Holds.nil, and_true, Nat.add_zero] at hS1
                  clear hS1
                  have hbT := below_on hbk (below_new hb1)
                  have hownW := own_below hown hbT
                  have hbW := below_on hb hbT
                  go_wp2_with (at_builtin; refine wpList_app rfl _ _ _ rfl w0.heap.size 3 _ 1 8 ei_int _ (idleN rs i).length _ (by rfl) hownW 1 #[.int .i64 (i : Int)] rfl (by simp) rfl (int_one _) hx1 hx2 hbW.size ?_; intro v' wa hown' hga)
                  have hba := below_app hbW hownW hga hbW.size
                  go_roundw
                  case rel => exact ⟨i + 1, by go_num, by omega, by rw [HNX.out]; simpa using hown', hba⟩
                  case measure => simp [intOf]; omega
                ·
                  go_wp2_with fail
                  refine wp_region_calm _ hbox (by kernel_rfl) (by kernel_rfl) (fun hS => ?_)
                  simp only [elemL, List.cons_append, List.nil_append, Holds.cons, Holds.nil, and_true, Nat.add_zero] at hS
                  repeat (go_big_quiet_step ((first | (go_at_call_of 47 (Value.agg #[Value.int IntKind.u32 rfa, Value.int IntKind.i64 rfb]); exact calm_of (HX1.out _)) | (go_at_call_of 47 (Value.agg #[Value.int IntKind.u32 rta, Value.int IntKind.i64 rtb]); exact calm_of (HX2.out _)))))
                  refine wpQuiet_nil ?_
                  clear hS
                  intro w1 hb1 hS1
                  simp only [elemL, List.cons_append, List.nil_append, Holds.cons, Holds.nil, and_true, Nat.add_zero] at hS1
                  clear hS1
                  have hbT := below_on hbk (below_new hb1)
                  have hownW := own_below hown hbT
                  have hbW := below_on hb hbT
                  go_wp2_with (at_builtin; refine wpList_app rfl _ _ _ rfl w0.heap.size 3 _ 1 8 ei_int _ (idleN rs i).length _ (by rfl) hownW 1 #[.int .i64 (i : Int)] rfl (by simp) rfl (int_one _) hx1 hx2 hbW.size ?_; intro v' wa hown' hga)
                  have hba := below_app hbW hownW hga hbW.size
                  go_roundw
                  case rel => exact ⟨i + 1, by go_num, by omega, by rw [HNX.out]; simpa using hown', hba⟩
                  case measure => simp [intOf]; omega
        · obtain rfl : k = i := by omega
          have hat : covAt rs k = false := covAt_no HRI.out HK.out
          have hnx := idleN_no hat
          have HNX := Lib.hid hnx
          have hownW := own_below hown hbk
          have hbW := below_on hb hbk
          clear hat hnx
          go_wp2
          go_roundw
          case rel => exact ⟨k + 1, by go_num, by omega, by rw [HNX.out]; exact hownW, hbW⟩
          case measure => simp [intOf]; omega
    · obtain rfl : i = n := by omega
      have hlen := idleN_len rs i
      have hown2 := hown
      rw [← nums_flat] at hown2
      obtain ⟨B, d, e, hd, hdm, hE⟩ := own_elems hown2 (nums_one _ _) (nums_length _ _)
      subst e
      clear hown hown2
      have hr1 := hrr.keep hb
      have hd1 := hd0.keep hb
      clear hrr hd0
      have hlm : (idleN rs i).length ≤ maxLen := by unfold maxLen; omega
      have hlm2 := hlm
      unfold maxLen at hlm2
      go_wp2_with fail
      refine (HI.out _ hr1).mono ?_
      rintro e w1 ⟨B1, c1, rfl, hm1, hE1, hb1⟩
      have hr2 := hr1.keep hb1
      have hd2 := hd1.keep hb1
      have hE2 := hE.keep hb1
      clear hr1 hd1 hE HI
      go_wp2_with fail
      refine (eqInt_any _ _ _ _ _ _ _ _ _ rfl rfl hm1 hE1 hE2).mono ?_
      rintro e w2 ⟨rfl, hb2⟩
      have hr3 := hr2.keep hb2
      have hd3 := hd2.keep hb2
      have hE3 := hE2.keep hb2
      clear hr2 hd2 hE2 hE1
      have e1 : (idleN rs i == idleN rs i) = true := by simp
      rw [e1]
      simp only [elemL, Holds.cons, Holds.nil, and_true, Nat.zero_add] at hd3
      go_wp2_with fail
      refine (HF.out _ hr3).mono ?_
      rintro e w3 ⟨rfl, hb3⟩
      have hE4 := hE3.keep hb3
      clear hr3 hd3 hE3 HF
      go_wp2_with fail
      refine (containsInt_any _ _ _ _ _ _ rfl hlm hE4).mono ?_
      rintro e w4 ⟨rfl, hb4⟩
      rw [idle_not]
      go_wp2_with fail
      refine (aclAlive_walk _).mono ?_
      rintro e w5 ⟨rfl, hb5⟩
      go_wp2_with fail
      go_ret
      exact ⟨rfl, below_on (below_on (below_on (below_on (below_on (below_on hb0 hb) hb1) hb2) hb3) hb4) hb5⟩

theorem AclIdle_open {H : Type} {enc : TypeId × Value → H} {W : World} {base : Nat} {v0 v1 : Value} {d0 d1 : DataW H} {p0 p1 : List MemPlace}
    (a0 : ArgIn enc Try.prog W base 23 v0 d0 p0) (a1 : ArgIn enc Try.prog W base 29 v1 d1 p1) :
    Calls Try.prog 9 #[v0, v1] W (Pure W (.bool true)) := by
  obtain ⟨cs, f1, e1, t1⟩ := a1.struct Try.underlying29
  obtain ⟨u0, u1, u3, u4, u7, u8, pp, src, dst, e2, q1, q2, q3, q4⟩ := open_datagram t1
  obtain ⟨a, l, c, f0, e0, t0⟩ := a0.slice Try.underlying23
  obtain ⟨A, n, cap, rs, e3, hl, hc, hm, hr, hok⟩ := open_rules2 t0
  exact calls_args (AclIdle_walk A n cap rs pp src dst u0 u1 u3 u4 u7 u8 W hl hc hm hr hok q1 q2 q3 q4) (by rw [e0, e1, e2, e3])

set_option maxRecDepth 100000 in
theorem AclIdle_lifted (os : Os) (started : os.Started) (H : Type) (enc : TypeId × Value → H) :
    ReturnsInHanded {} Try.checked os 9 .any (Rows.aclIdleSpec.pre6 enc Try.prog Try.f9 Rows.aclIdleRow.domain false) (Rows.aclIdleSpec.post enc Try.prog Try.f9 false true false false) := by
  refine returnsInHanded_of_change (C := Try.checked) own started (by kernel_rfl) Try.func9
    (ChangeSpec.witness6 (enc := enc) (C := Try.checked) false ⟨#[], #[.slice none 0 0, .agg #[.int .u8 0, .int .u8 0, .int .u8 0, .int .u16 0, .int .u16 0, .int .u32 0, .int .u32 0, .slice none 0 0, .slice none 0 0]], []⟩ 8 (by kernel_rfl) (by kernel_rfl) (by kernel_rfl) (by kernel_rfl)) ?_
  intro W base args ds gs before hval0 hW hcnd _
  have hval : ∀ (j : Nat) t v, Try.f9.params[j]? = some t → args[j]? = some v → Value.okWide Try.prog W .any base t v := hval0
  have hW' := hW
  obtain ⟨p, q, hA0, hV, rfl, hfz, hnd⟩ := hW
  have hA : DataW.TrodAll enc Try.prog W 0 (fun _ => true) true Try.f9.params.toList args.toList ds p := hA0
  rw [Try.params9] at hA hval
  obtain ⟨v0, vs0, d0, ds0, p0, q0, hargs, rfl, rfl, h0, r0⟩ := trodAll_cons hA
  obtain ⟨v1, vs1, d1, ds1, p1, q1, rfl, rfl, rfl, h1, r1⟩ := trodAll_cons r0
  obtain ⟨rfl, rfl, rfl⟩ := trodAll_nil r1
  obtain rfl : args = #[v0, v1] := by cases args; simp_all
  obtain ⟨rfl, rfl⟩ := trodVars_none hV
  have lt0 : ∀ x ∈ p0, x.block < W.heap.size := by obtain ⟨m, hm⟩ := h0; exact DataW.trod_lt m _ _ _ hm
  have lt1 : ∀ x ∈ p1, x.block < W.heap.size := by obtain ⟨m, hm⟩ := h1; exact DataW.trod_lt m _ _ _ hm
  clear hA0 hval0
  refine (AclIdle_open ⟨hval 0 23 v0 rfl rfl, h0⟩ ⟨hval 1 29 v1 rfl rfl, h1⟩).mono fun e W' ⟨he, bel⟩ => ?_
  subst he
  exact ⟨_, rfl, _, _, _, [], _, [], hW', trodAll_mk1 (shut_bool Try.underlying4 _), (trodAll_cons_mk (Below.trod laidOut (by kernel_rfl) (of_decide_eq_true (by kernel_rfl)) h0 bel lt0) (trodAll_cons_mk (Below.trod laidOut (by kernel_rfl) (of_decide_eq_true (by kernel_rfl)) h1 bel lt1) trodAll_mk0)), rfl, bel.frame _, fun h => by cases h⟩

theorem AclIdle_holds : Rows.AclIdleSaid :=
  OpenClaim.holds_of_wide 9 Try.f9 rfl rfl rfl rfl rfl rfl rfl ⟨rfl, rfl, rfl, rfl, rfl⟩ rfl rfl rfl rfl rfl (by kernel_rfl) Try.func9 (by kernel_rfl)
    (of_decide_eq_true (by kernel_rfl)) (by unfold Func.isWrapper; rw [if_neg (of_decide_eq_false (by kernel_rfl))]; exact ⟨rfl, rfl⟩)
    (fun os started H enc _ => AclIdle_lifted os started H enc)
#print axioms AclIdle_holds
end Go.Proofs.Ytnbokpfkcfhgbaa
