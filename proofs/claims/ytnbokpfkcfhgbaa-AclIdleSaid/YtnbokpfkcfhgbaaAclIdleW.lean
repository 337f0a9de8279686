/- The walk of acl's Idle. -/
import Derived.Test.YtnbokpfkcfhgbaaAclIdleLaw
import Derived.Test.YtnbokpfkcfhgbaaCidr2
namespace Go.Proofs.Ytnbokpfkcfhgbaa
open Go Go.RowKit
attribute [local go_sem ↓] Go.wp_at_zero Go.wp_at_succ

theorem int_one (x : Int) : ∀ u ∈ (#[Value.int .i64 x] : Array Value).toList, u.oneCell' = true := by simp [Value.oneCell']

set_option maxRecDepth 100000 in
set_option maxHeartbeats 8000000 in
theorem Idle_walk (A : Option Addr) (n cap : Nat) (rs : List Rule) (w : World) (hn : rs.length = n) (hcap : n ≤ cap) (hm : cap ≤ maxLen) (hn50 : n ≤ 50) (hr : Elems w A 6 (rs.map Rule.cells)) (hok : ∀ r ∈ rs, r.ok) :
    Calls Try.prog 49 #[.slice A n cap] w (NewNums .i64 w (idleN rs n)) := by
  unfold maxLen at hm
  have HN := Lib.hid hn
  clear hn
  go_enter Try.func49, Try.ntmps49
  go_wp2
  go_loopw [3, 10] (fun v iv wr => ∃ i : Nat, iv = .int .i64 i ∧ i ≤ n ∧ wr.ownsRow w.heap.size 3 1 v (idleN rs i).length ((idleN rs i).map (Value.int .i64)) ∧ Below w.heap.size w wr) (fun _ iv _ => n - (intOf iv).toNat)
  case atStart => exact ⟨0, rfl, by omega, World.ownsRow_nil _ _ _ _, Below.refl _ _⟩
  case round =>
    obtain ⟨i, rfl, hi, hown, hb⟩ := hrel
    by_cases hlt : i < n
    · have hlt' : i < rs.length := by rw [HN.out]; exact hlt
      have hlen := idleN_len rs i
      obtain ⟨b, o, hA, hh⟩ := hr i rs[i].cells (by simp [hlt'])
      subst hA
      have hri : rs[i]? = some rs[i] := List.getElem?_eq_getElem hlt'
      have hL := hh.keep hb
      obtain ⟨r1, r2, r3, r4⟩ := hok rs[i] (List.getElem_mem _)
      generalize rs[i] = r at *
      cases r with | mk rp rfa rfb rta rtb rm =>
      simp only at r1 r2 r3 r4
      have HRI := Lib.hid hri
      clear hri hh
      simp only [Rule.cells, elemL, Holds.cons, Holds.nil, and_true] at hL
      obtain ⟨wo, rfl⟩ : ∃ wo : World, wo = wr := ⟨_, rfl⟩
      obtain ⟨vo, rfl⟩ : ∃ vo : Value, vo = u3 := ⟨_, rfl⟩
      go_wp2
      go_loopw [3, 19] (fun v3 kv wi => ∃ k : Nat, v3 = vo ∧ kv = .int .i64 k ∧ k ≤ i ∧ Below (wo.alloc (.cells #[.int .u8 rp, .int .u32 rfa, .int .i64 rfb, .int .u32 rta, .int .i64 rtb, .bool rm] 34)).heap.size (wo.alloc (.cells #[.int .u8 rp, .int .u32 rfa, .int .i64 rfb, .int .u32 rta, .int .i64 rtb, .bool rm] 34)) wi
        ∧ Hid (∀ j, j < k → ∀ q, rs[j]? = some q → covB q ⟨rp, rfa, rfb, rta, rtb, rm⟩ = false)) (fun _ kv _ => i - (intOf kv).toNat)
      case atStart => exact ⟨0, rfl, rfl, by omega, Below.refl _ _, fun j hj => by omega⟩
      case round =>
        obtain ⟨k, rfl, rfl, hk, hbk, HK⟩ := hrel
        by_cases hki : k < i
        · have hkl : k < rs.length := by rw [HN.out]; omega
          obtain ⟨b2, o2, hA2, hq⟩ := hr k rs[k].cells (by simp [hkl])
          cases hA2
          have hqi : rs[k]? = some rs[k] := List.getElem?_eq_getElem hkl
          have hQ := hq.keep (below_on hb (below_new hbk))
          obtain ⟨q1, q2, q3, q4⟩ := hok rs[k] (List.getElem_mem _)
          generalize rs[k] = q at *
          cases q with | mk qp qfa qfb qta qtb qm =>
          simp only at q1 q2 q3 q4
          have HQI := Lib.hid hqi
          clear hqi hq
          have hbox := ((elemL_new wo #[.int .u8 rp, .int .u32 rfa, .int .i64 rfb, .int .u32 rta, .int .i64 rtb, .bool rm] 34).keep hbk)
          have hbox2 := Holds.append (hbox.keep ((Below.refl _ _).alloc (Nat.le_refl _) (.cells #[.int .u8 qp, .int .u32 qfa, .int .i64 qfb, .int .u32 qta, .int .i64 qtb, .bool qm] 34))) (elemL_new wr #[.int .u8 qp, .int .u32 qfa, .int .i64 qfb, .int .u32 qta, .int .i64 qtb, .bool qm] 34)
          simp only [Rule.cells, elemL, Holds.cons, Holds.nil, and_true] at hQ
          have hboxS := hbox
          simp only [elemL, Holds.cons, Holds.nil, and_true, Nat.zero_add] at hboxS
          have hsz : wo.heap.size < wr.heap.size := by have := hbk.size; simp at this; omega
          have hbr : b < wr.heap.size := lt_of_cell hQ.1
          have HCV : Hid (covB ⟨qp, qfa, qfb, qta, qtb, qm⟩ ⟨rp, rfa, rfb, rta, rtb, rm⟩ = covF qp qfa qfb qta qtb rp rfa rfb rta rtb) := rfl
          have HW1 := Lib.hid fun W => within_any rfa rfb qfa qfb W r1 r2 q1 q2
          have HW2 := Lib.hid fun W => within_any rta rtb qta qtb W r3 r4 q3 q4
          cases c1 : (qp == 0 || qp == rp)
          ·
            have hcv : covF qp qfa qfb qta qtb rp rfa rfb rta rtb = false := by simp [covF, c1]
            have c2 : (qp == 0) = false := by revert c1; cases (qp == 0) <;> simp
            have c3 : (qp == rp) = false := by revert c1; cases (qp == rp) <;> simp
            clear c1
            have HK' : Hid (∀ j, j < k + 1 → ∀ q, rs[j]? = some q → covB q ⟨rp, rfa, rfb, rta, rtb, rm⟩ = false) := fun j hj q hq => by
              by_cases e : j = k
              · subst e
                rw [HQI.out] at hq
                cases hq
                rw [HCV.out, hcv]
              · exact HK.out j (by omega) q hq
            clear hcv
            go_wp2_with fail
            go_roundw
            case rel => exact ⟨k + 1, rfl, by go_num, by omega, (below_on hbk (below_new (o := .cells #[.int .u8 qp, .int .u32 qfa, .int .i64 qfb, .int .u32 qta, .int .i64 qtb, .bool qm] 34) (Below.refl _ _))), HK'⟩
            case measure => simp [intOf]; omega
          ·
            have hor : (qp == 0) = true ∨ ((qp == 0) = false ∧ (qp == rp) = true) := by
              revert c1; cases (qp == 0) <;> simp
            cases g1 : withinB rfa rfb qfa qfb
            ·
              have hcv : covF qp qfa qfb qta qtb rp rfa rfb rta rtb = false := by simp [covF, g1]
              have HK' : Hid (∀ j, j < k + 1 → ∀ q, rs[j]? = some q → covB q ⟨rp, rfa, rfb, rta, rtb, rm⟩ = false) := fun j hj q hq => by
                by_cases e : j = k
                · subst e
                  rw [HQI.out] at hq
                  cases hq
                  rw [HCV.out, hcv]
                · exact HK.out j (by omega) q hq
              clear hcv
              clear c1
              rcases hor with c2 | ⟨c2, c3⟩
              ·
                go_wp2_with fail
                refine (HW1.out _).mono ?_
                rintro e w1 ⟨rfl, hb1⟩
                have hbox3 := hbox2.keep hb1
                have hbox4 := hbox3
                simp only [elemL, List.cons_append, List.nil_append, Holds.cons, Holds.nil, and_true, Nat.add_zero, Nat.zero_add] at hbox3
                rw [g1]
                clear g1 hbox2 hbox4
                go_wp2_with fail
                go_roundw
                case rel => exact ⟨k + 1, rfl, by go_num, by omega, (below_on hbk (below_new hb1)), HK'⟩
                case measure => simp [intOf]; omega
              ·
                go_wp2_with fail
                refine (HW1.out _).mono ?_
                rintro e w1 ⟨rfl, hb1⟩
                have hbox3 := hbox2.keep hb1
                have hbox4 := hbox3
                simp only [elemL, List.cons_append, List.nil_append, Holds.cons, Holds.nil, and_true, Nat.add_zero, Nat.zero_add] at hbox3
                rw [g1]
                clear g1 hbox2 hbox4
                go_wp2_with fail
                go_roundw
                case rel => exact ⟨k + 1, rfl, by go_num, by omega, (below_on hbk (below_new hb1)), HK'⟩
                case measure => simp [intOf]; omega
            ·
              cases g2 : withinB rta rtb qta qtb
              ·
                have hcv : covF qp qfa qfb qta qtb rp rfa rfb rta rtb = false := by simp [covF, g2]
                have HK' : Hid (∀ j, j < k + 1 → ∀ q, rs[j]? = some q → covB q ⟨rp, rfa, rfb, rta, rtb, rm⟩ = false) := fun j hj q hq => by
                  by_cases e : j = k
                  · subst e
                    rw [HQI.out] at hq
                    cases hq
                    rw [HCV.out, hcv]
                  · exact HK.out j (by omega) q hq
                clear hcv
                clear c1
                rcases hor with c2 | ⟨c2, c3⟩
                ·
                  go_wp2_with fail
                  refine (HW1.out _).mono ?_
                  rintro e w1 ⟨rfl, hb1⟩
                  have hbox3 := hbox2.keep hb1
                  have hbox4 := hbox3
                  simp only [elemL, List.cons_append, List.nil_append, Holds.cons, Holds.nil, and_true, Nat.add_zero, Nat.zero_add] at hbox3
                  rw [g1]
                  clear g1 hbox2 hbox4
                  go_wp2_with fail
                  refine (HW2.out _).mono ?_
                  rintro e w2 ⟨rfl, hb2⟩
                  rw [g2]
                  clear g2 hbox3
                  go_wp2_with fail
                  go_roundw
                  case rel => exact ⟨k + 1, rfl, by go_num, by omega, (below_on (below_on hbk (below_new hb1)) hb2), HK'⟩
                  case measure => simp [intOf]; omega
                ·
                  go_wp2_with fail
                  refine (HW1.out _).mono ?_
                  rintro e w1 ⟨rfl, hb1⟩
                  have hbox3 := hbox2.keep hb1
                  have hbox4 := hbox3
                  simp only [elemL, List.cons_append, List.nil_append, Holds.cons, Holds.nil, and_true, Nat.add_zero, Nat.zero_add] at hbox3
                  rw [g1]
                  clear g1 hbox2 hbox4
                  go_wp2_with fail
                  refine (HW2.out _).mono ?_
                  rintro e w2 ⟨rfl, hb2⟩
                  rw [g2]
                  clear g2 hbox3
                  go_wp2_with fail
                  go_roundw
                  case rel => exact ⟨k + 1, rfl, by go_num, by omega, (below_on (below_on hbk (below_new hb1)) hb2), HK'⟩
                  case measure => simp [intOf]; omega
              ·
                have hcv : covF qp qfa qfb qta qtb rp rfa rfb rta rtb = true := by simp [covF, g1, g2, c1]
                have hat : covAt rs i = true := covAt_yes HRI.out hki HQI.out (by rw [HCV.out, hcv])
                have hnx := idleN_yes hat
                have HNX := Lib.hid hnx
                clear hcv hat hnx
                have hx1 : (idleN rs i).length + 1 ≤ maxLen := by unfold maxLen; omega
                have hx2 : ((idleN rs i).length + 1) * 8 ≤ 140737488355328 := by omega
                clear c1
                rcases hor with c2 | ⟨c2, c3⟩
                ·
                  go_wp2_with fail
                  refine (HW1.out _).mono ?_
                  rintro e w1 ⟨rfl, hb1⟩
                  have hbox3 := hbox2.keep hb1
                  have hbox4 := hbox3
                  simp only [elemL, List.cons_append, List.nil_append, Holds.cons, Holds.nil, and_true, Nat.add_zero, Nat.zero_add] at hbox3
                  rw [g1]
                  clear g1 hbox2 hbox4
                  go_wp2_with fail
                  refine (HW2.out _).mono ?_
                  rintro e w2 ⟨rfl, hb2⟩
                  rw [g2]
                  clear g2 hbox3
                  have hbT := below_new (below_on (below_on hbk (below_new hb1)) hb2)
                  have hownW := own_below hown hbT
                  have hbW := below_on hb hbT
                  go_wp2_with (at_builtin; refine wpList_app rfl _ _ _ rfl w.heap.size 3 _ 1 8 ei_int _ (idleN rs i).length _ (by rfl) hownW 1 #[.int .i64 (i : Int)] rfl (by simp) rfl (int_one _) hx1 hx2 hbW.size ?_; intro v' wa hown' hga)
                  have hba := below_app hbW hownW hga hbW.size
                  go_roundw
                  case rel => exact ⟨i + 1, by go_num, by omega, by rw [HNX.out]; simpa using hown', hba⟩
                  case measure => simp [intOf]; omega
                ·
                  go_wp2_with fail
                  refine (HW1.out _).mono ?_
                  rintro e w1 ⟨rfl, hb1⟩
                  have hbox3 := hbox2.keep hb1
                  have hbox4 := hbox3
                  simp only [elemL, List.cons_append, List.nil_append, Holds.cons, Holds.nil, and_true, Nat.add_zero, Nat.zero_add] at hbox3
                  rw [g1]
                  clear g1 hbox2 hbox4
                  go_wp2_with fail
                  refine (HW2.out _).mono ?_
                  rintro e w2 ⟨rfl, hb2⟩
                  rw [g2]
                  clear g2 hbox3
                  have hbT := below_new (below_on (below_on hbk (below_new hb1)) hb2)
                  have hownW := own_below hown hbT
                  have hbW := below_on hb hbT
                  go_wp2_with (at_builtin; refine wpList_app rfl _ _ _ rfl w.heap.size 3 _ 1 8 ei_int _ (idleN rs i).length _ (by rfl) hownW 1 #[.int .i64 (i : Int)] rfl (by simp) rfl (int_one _) hx1 hx2 hbW.size ?_; intro v' wa hown' hga)
                  have hba := below_app hbW hownW hga hbW.size
                  go_roundw
                  case rel => exact ⟨i + 1, by go_num, by omega, by rw [HNX.out]; simpa using hown', hba⟩
                  case measure => simp [intOf]; omega
        · obtain rfl : k = i := by omega
          have hat : covAt rs k = false := covAt_no HRI.out HK.out
          have hnx := idleN_no hat
          have HNX := Lib.hid hnx
          have hbT := below_new hbk
          have hownW := own_below hown hbT
          have hbW := below_on hb hbT
          clear hat hnx
          go_wp2
          go_roundw
          case rel => exact ⟨k + 1, by go_num, by omega, by rw [HNX.out]; exact hownW, hbW⟩
          case measure => simp [intOf]; omega
    · obtain rfl : i = n := by omega
      have hlen := idleN_len rs i
      go_wp2
      go_ret
      exact newNums_mk hown rfl (by unfold maxLen; omega) hb rfl
end Go.Proofs.Ytnbokpfkcfhgbaa
