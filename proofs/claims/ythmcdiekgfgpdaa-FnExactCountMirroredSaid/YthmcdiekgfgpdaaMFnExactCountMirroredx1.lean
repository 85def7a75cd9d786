import Derived.Test.YthmcdiekgfgpdaaMFnExactCountMirroredwWords
import Derived.Test.YthmcdiekgfgpdaaMFnExactCountMirroredwLast
import Derived.Test.YthmcdiekgfgpdaaMFnExactCountMirroredwTab
import Derived.Test.YthmcdiekgfgpdaaMFnExactCountMirroredwApart
import Derived.Test.YthmcdiekgfgpdaaMFnExactCountMirroredwFoot
import Derived.Test.YthmcdiekgfgpdaaMFnExactCountMirroredwKept
import Derived.Test.YthmcdiekgfgpdaaMFnExactCountMirroredwShare
import Derived.Test.YthmcdiekgfgpdaaMFnExactCountMirroredwN
import Derived.Test.YthmcdiekgfgpdaaMFnExactCountMirroredwEqStruct
import Derived.Test.YthmcdiekgfgpdaaMFnExactCountMirroredwRepsOne
import Derived.Test.YthmcdiekgfgpdaaMFnExactCountMirroredwInv
import Derived.Test.YthmcdiekgfgpdaaMFnExactCountMirroredwMore
import Derived.Test.YthmcdiekgfgpdaaMFnExactCountMirroredx0
import Derived.Shelf.Abstract
import Derived.Deep.RegionLaw
import Derived.Deep.RegionLawGrows
import Derived.Deep.DeepCutAuto
namespace Go.Proofs.Ythmcdiekgfgpdaa.P
open Go.RowKit Go.Proofs.YthmcdiekgfgpdaaW.PrintWords Go.Proofs.YthmcdiekgfgpdaaW.PrintLast Go.Proofs.YthmcdiekgfgpdaaW.PrintMore
attribute [local go_sem] max2_int min2_int max_two min_two max_three min_three max_four min_four
set_option linter.unusedVariables false
set_option linter.unusedSimpArgs false
mutual
def spec_cuBefore.l0 : Nat → List Int → List Int → Int → Option (Bool)
  | 0, _, _, _ => none
  | k + 1, x0, x1, x5 => if x5 < (x0.length : Int) then (spec_cuBefore.j1 k x0 x1 x5 (decide (x5 < (x1.length : Int)))) else (spec_cuBefore.j1 k x0 x1 x5 false)
def spec_cuBefore.j1 : Nat → List Int → List Int → Int → Bool → Option (Bool)
  | 0, _, _, _, _ => none
  | k + 1, x0, x1, x5, x15 => if x15 = true then (if 0 ≤ x5 then (if x5 < (x0.length : Int) then (if x5 < (x1.length : Int) then (if (rd x0 x5) = (rd x1 x5) then (spec_cuBefore.l0 k x0 x1 (wrap64 (x5 + 1))) else (some (decide ((rd x0 x5) < (rd x1 x5))))) else (none)) else (none)) else (none)) else (some (decide ((x0.length : Int) < (x1.length : Int))))
end
def spec_cuBefore.f (k : Nat) (l0 : List Int) (l1 : List Int) : Option (Bool) := spec_cuBefore.l0 k l0 l1 0
set_option maxHeartbeats 8000000 in
set_option maxRecDepth 100000 in
theorem spec_cuBefore.calls (k : Nat) (A0 : Option Addr) (c0 : Nat) (l0 : List Int) (A1 : Option Addr) (c1 : Nat) (l1 : List Int) (r : Bool) (w : World) (hr0 : Kd.C (Kd.int .i64) w A0 l0.length l0) (hc0 : l0.length ≤ c0) (hr1 : Kd.C (Kd.int .i64) w A1 l1.length l1) (hc1 : l1.length ≤ c1) (h : spec_cuBefore.f k l0 l1 = some r) :
    Calls Try.prog 29 #[.slice A0 l0.length c0, .slice A1 l1.length c1] w fun e w' => e = .returned (.bool r) ∧ Drawn0 w w' := by
  have HR0 := Aside0.mk hr0
  have HC0 := Aside0.mk hc0
  clear hr0 hc0
  have HR1 := Aside0.mk hr1
  have HC1 := Aside0.mk hc1
  clear hr1 hc1
  have H : (spec_cuBefore.l0 k l0 l1 0) = some r := h
  clear h
  have H' := Aside0.mk H
  clear H
  go_enter Try.func29, Try.ntmps29
  go_wp2
  repeat (go_quiet (fail); try go_wp2)
  go_loopg [5] k (fun kq v5 w' => ∃ (x5_1 : Int), v5 = .int .i64 x5_1 ∧ Aside0 (spec_cuBefore.l0 kq l0 l1 x5_1 = some r) ∧ Aside0 (kq ≤ k) ∧ Drawn0 w w')
  case atStart => exact ⟨(0), (by first | rfl | (simp; done) | (simp [*]; done)), H', ⟨Nat.le_refl _⟩, by repeat (first | exact Drawn0.refl _ | apply Drawn0.step)⟩
  case round =>
    clear H'
    try clear c1
    try clear c2
    try clear p2
    obtain ⟨x5_1, rfl, HA, HK1, ⟨m1, rfl⟩⟩ := hrel
    cases gk with
    | zero => exact absurd HA.out (by simp [spec_cuBefore.l0])
    | succ k1 =>
      have H := HA.out
      clear HA
      simp only [spec_cuBefore.l0] at H
      have HC3 := Aside0.mk H
      clear H
      go_upto_region 2 with (fail)
      repeat (go_quiet (fail); go_upto_region 2 with (fail))
      go_cut [15] (fun v15 wc => ∃ (kq : Nat) (x15_2 : Bool), v15 = .bool x15_2 ∧ Aside0 (spec_cuBefore.j1 kq l0 l1 x5_1 x15_2 = some r) ∧ Aside0 (kq ≤ k1) ∧ Drawn0 w wc)
      case first =>
        have H := HC3.out
        clear HC3
        by_cases c4 : x5_1 < (l0.length : Int)
        · rw [if_pos c4] at H
          have c4b0 : decide (x5_1 < (l0.length : Int)) = true := decide_eq_true c4
          clear c4
          (first | rw [c4b0] | (simp only [i64_w, i32_w]; rw [c4b0]) | skip)
          have H' := Aside0.mk H
          clear H
          go_wp2
          repeat (go_quiet (fail); try go_wp2)
          go_meet
          case rel => exact ⟨_, (decide (x5_1 < (l1.length : Int))), (by first | rfl | (simp; done) | (simp [*]; done)), H', ⟨by have := HK1.out; first | omega | exact Nat.le_refl _⟩, by repeat (first | exact Drawn0.refl _ | apply Drawn0.step)⟩
        · rw [if_neg c4] at H
          have c4b0 : decide (x5_1 < (l0.length : Int)) = false := decide_eq_false c4
          clear c4
          (first | rw [c4b0] | (simp only [i64_w, i32_w]; rw [c4b0]) | skip)
          have H' := Aside0.mk H
          clear H
          go_wp2
          repeat (go_quiet (fail); try go_wp2)
          go_meet
          case rel => exact ⟨_, (false), (by first | rfl | (simp; done) | (simp [*]; done)), H', ⟨by have := HK1.out; first | omega | exact Nat.le_refl _⟩, by repeat (first | exact Drawn0.refl _ | apply Drawn0.step)⟩
      case rest =>
        clear HC3
        try clear c1
        try clear c2
        try clear p2
        try clear c4
        try clear c4b0
        try clear p2
        obtain ⟨kq, x15_2, rfl, HA, HJ2, ⟨mc2, rfl⟩⟩ := hcut
        cases kq with
        | zero => exact absurd HA.out (by simp [spec_cuBefore.j1])
        | succ kj2 =>
          have H := HA.out
          clear HA
          simp only [spec_cuBefore.j1] at H
          by_cases c5 : x15_2 = true
          · subst c5
            have H1 : (if 0 ≤ x5_1 then (if x5_1 < (l0.length : Int) then (if x5_1 < (l1.length : Int) then (if (rd l0 x5_1) = (rd l1 x5_1) then (spec_cuBefore.l0 kj2 l0 l1 (wrap64 (x5_1 + 1))) else (some (decide ((rd l0 x5_1) < (rd l1 x5_1))))) else (none)) else (none)) else (none)) = some r := by rw [if_pos rfl] at H; exact H
            clear H
            have H := H1
            clear H1
            by_cases c6 : 0 ≤ x5_1
            · rw [if_pos c6] at H
              have c6b0 : decide (0 ≤ x5_1) = true := decide_eq_true c6
              clear c6
              by_cases c7 : x5_1 < (l0.length : Int)
              · rw [if_pos c7] at H
                have c7b0 : decide (x5_1 < (l0.length : Int)) = true := decide_eq_true c7
                clear c7
                by_cases c8 : x5_1 < (l1.length : Int)
                · rw [if_pos c8] at H
                  have c8b0 : decide (x5_1 < (l1.length : Int)) = true := decide_eq_true c8
                  clear c8
                  by_cases c9 : (rd l0 x5_1) = (rd l1 x5_1)
                  · rw [if_pos c9] at H
                    have c9b0 : ((rd l0 x5_1) == (rd l1 x5_1)) = true := beq_iff_eq.mpr c9
                    have c9b1 : ((rd l0 x5_1) != (rd l1 x5_1)) = false := bne_eq_false_iff_eq.mpr c9
                    clear c9
                    have H' := Aside0.mk H
                    clear H
                    have p101 : 0 ≤ (x5_1 : Int) := of_decide_eq_true (by first | (with_reducible assumption) | assumption)
                    have q101 : x5_1 < (l0.length : Int) := of_decide_eq_true (by first | (with_reducible assumption) | assumption)
                    obtain ⟨ad101, e101, hx101_0⟩ := Kd.at_int HR0.out x5_1 p101 q101
                    cases e101
                    replace p101 := eq_true p101
                    replace q101 := eq_true q101
                    have p102 : 0 ≤ (x5_1 : Int) := of_decide_eq_true (by first | (with_reducible assumption) | assumption)
                    have q102 : x5_1 < (l1.length : Int) := of_decide_eq_true (by first | (with_reducible assumption) | assumption)
                    obtain ⟨ad102, e102, hx102_0⟩ := Kd.at_int HR1.out x5_1 p102 q102
                    cases e102
                    replace p102 := eq_true p102
                    replace q102 := eq_true q102
                    go_wp2
                    repeat (go_quiet (fail); try go_wp2)
                    go_roundg kj2
                    case measure => have := HK1.out; have := HJ2.out; omega
                    case rel => exact ⟨(wrap64 (x5_1 + 1)), (by first | rfl | (simp; done) | (simp [*]; done)), H', ⟨by have := HK1.out; have := HJ2.out; omega⟩, by repeat (first | exact Drawn0.refl _ | apply Drawn0.step)⟩
                  · rw [if_neg c9] at H
                    have c9b0 : ((rd l0 x5_1) == (rd l1 x5_1)) = false := beq_eq_false_iff_ne.mpr c9
                    have c9b1 : ((rd l0 x5_1) != (rd l1 x5_1)) = true := bne_iff_ne.mpr c9
                    obtain rfl := Option.some.inj H
                    have p101 : 0 ≤ (x5_1 : Int) := of_decide_eq_true (by first | (with_reducible assumption) | assumption)
                    have q101 : x5_1 < (l0.length : Int) := of_decide_eq_true (by first | (with_reducible assumption) | assumption)
                    obtain ⟨ad101, e101, hx101_0⟩ := Kd.at_int HR0.out x5_1 p101 q101
                    cases e101
                    replace p101 := eq_true p101
                    replace q101 := eq_true q101
                    have p102 : 0 ≤ (x5_1 : Int) := of_decide_eq_true (by first | (with_reducible assumption) | assumption)
                    have q102 : x5_1 < (l1.length : Int) := of_decide_eq_true (by first | (with_reducible assumption) | assumption)
                    obtain ⟨ad102, e102, hx102_0⟩ := Kd.at_int HR1.out x5_1 p102 q102
                    cases e102
                    replace p102 := eq_true p102
                    replace q102 := eq_true q102
                    have p103 : 0 ≤ (x5_1 : Int) := of_decide_eq_true (by first | (with_reducible assumption) | assumption)
                    have q103 : x5_1 < (l0.length : Int) := of_decide_eq_true (by first | (with_reducible assumption) | assumption)
                    obtain ⟨ad103, e103, hx103_0⟩ := Kd.at_int HR0.out x5_1 p103 q103
                    obtain rfl : ad101 = ad103 := (by injection e103)
                    replace p103 := eq_true p103
                    replace q103 := eq_true q103
                    have p104 : 0 ≤ (x5_1 : Int) := of_decide_eq_true (by first | (with_reducible assumption) | assumption)
                    have q104 : x5_1 < (l1.length : Int) := of_decide_eq_true (by first | (with_reducible assumption) | assumption)
                    obtain ⟨ad104, e104, hx104_0⟩ := Kd.at_int HR1.out x5_1 p104 q104
                    obtain rfl : ad102 = ad104 := (by injection e104)
                    replace p104 := eq_true p104
                    replace q104 := eq_true q104
                    go_wp2
                    repeat (go_quiet (fail); try go_wp2)
                    go_ret
                    exact ⟨by first | rfl | (simp; done) | (simp [*]; done), by repeat (first | exact Drawn0.refl _ | apply Drawn0.step)⟩
                · rw [if_neg c8] at H
                  exact absurd H (by simp)
              · rw [if_neg c7] at H
                exact absurd H (by simp)
            · rw [if_neg c6] at H
              exact absurd H (by simp)
          · replace c5 := Bool.eq_false_iff.mpr c5
            subst c5
            have H1 : (some (decide ((l0.length : Int) < (l1.length : Int)))) = some r := by rw [if_neg (show ¬ (false = true) by decide)] at H; exact H
            clear H
            have H := H1
            clear H1
            obtain rfl := Option.some.inj H
            go_wp2
            repeat (go_quiet (fail); try go_wp2)
            go_ret
            exact ⟨by first | rfl | (simp; done) | (simp [*]; done), by repeat (first | exact Drawn0.refl _ | apply Drawn0.step)⟩
end Go.Proofs.Ythmcdiekgfgpdaa.P

namespace Go.Proofs.Ythmcdiekgfgpdaa.P
open Go.RowKit Go.Proofs.YthmcdiekgfgpdaaW.PrintWords Go.Proofs.YthmcdiekgfgpdaaW.PrintLast Go.Proofs.YthmcdiekgfgpdaaW.PrintMore
attribute [local go_sem] max2_int min2_int max_two min_two max_three min_three max_four min_four
set_option linter.unusedVariables false
set_option linter.unusedSimpArgs false
attribute [local go_sem high] eqA42
def spec_cuFirst.l0 : Nat → List (S42) → Int → Int → Int → Int → List (S42) → Int → Int → List (S42) → Option (Bool)
  | 0, _, _, _, _, _, _, _, _, _ => none
  | k + 1, x9, x10, x11, x102000, x102001, x102002, x103000, x103001, x103002 => if x11 < x10 then (if 0 ≤ x11 then (if x11 < (x9.length : Int) then (if x11 ≥ (x103002.length : Int) then (some false) else (if x11 < (x103002.length : Int) then (if (!(((rd_T42 x9 x11).f0) == ((rd_T42 x103002 x11).f0)) || (!(((rd_T42 x9 x11).f1) == ((rd_T42 x103002 x11).f1)) || (!(((rd_T42 x9 x11).f2) == ((rd_T42 x103002 x11).f2))))) = true then ((spec_cuBefore.f k (([(rd_T42 x9 x11).f0, (rd_T42 x9 x11).f1, (rd_T42 x9 x11).f2] : List Int)) (([(rd_T42 x103002 x11).f0, (rd_T42 x103002 x11).f1, (rd_T42 x103002 x11).f2] : List Int))).bind fun t113 => (some t113)) else (spec_cuFirst.l0 k x9 x10 (wrap64 (x11 + 1)) x102000 x102001 x102002 x103000 x103001 x103002)) else (none))) else (none)) else (none)) else (some (decide ((x102002.length : Int) < (x103002.length : Int))))
def spec_cuFirst.f (k : Nat) (a0_0 : Int) (a0_1 : Int) (l0_2 : List (S42)) (a1_0 : Int) (a1_1 : Int) (l1_2 : List (S42)) : Option (Bool) := spec_cuFirst.l0 k l0_2 (l0_2.length : Int) 0 a0_0 a0_1 l0_2 a1_0 a1_1 l1_2
set_option maxHeartbeats 8000000 in
set_option maxRecDepth 100000 in
theorem spec_cuFirst.calls (k : Nat) (a0_0 : Int) (a0_1 : Int) (A0_2 : Option Addr) (c0_2 : Nat) (l0_2 : List (S42)) (a1_0 : Int) (a1_1 : Int) (A1_2 : Option Addr) (c1_2 : Nat) (l1_2 : List (S42)) (r : Bool) (w : World) (hr0_2 : Kd.C k42 w A0_2 l0_2.length l0_2) (hc0_2 : l0_2.length ≤ c0_2) (hr1_2 : Kd.C k42 w A1_2 l1_2.length l1_2) (hc1_2 : l1_2.length ≤ c1_2) (h : spec_cuFirst.f k a0_0 a0_1 l0_2 a1_0 a1_1 l1_2 = some r) :
    Calls Try.prog 16 #[.agg #[.int .i64 a0_0, .int .i64 a0_1, .slice A0_2 l0_2.length c0_2], .agg #[.int .i64 a1_0, .int .i64 a1_1, .slice A1_2 l1_2.length c1_2]] w fun e w' => e = .returned (.bool r) ∧ Below w.heap.size w w' := by
  have hu29 := Try.underlying29
  have hu42 := Try.underlying42
  have HR0_2 := Aside0.mk hr0_2
  have HC0_2 := Aside0.mk hc0_2
  clear hr0_2 hc0_2
  have HR1_2 := Aside0.mk hr1_2
  have HC1_2 := Aside0.mk hc1_2
  clear hr1_2 hc1_2
  have HB := Aside0.mk (Below.refl w.heap.size w)
  have H : (spec_cuFirst.l0 k l0_2 (l0_2.length : Int) 0 a0_0 a0_1 l0_2 a1_0 a1_1 l1_2) = some r := h
  clear h
  have H' := Aside0.mk H
  clear H
  go_enter Try.func16, Try.ntmps16
  go_wp2_with (first | ((with_reducible refine gate_dst (N := 2) rfl ?_); refine box_event ?hg (N := 2) ?hd (cs := #[.int .i64 a0_0, .int .i64 a0_1, .slice A0_2 l0_2.length c0_2]) (t := 29) ?hr ?_; (case hd => rfl); (case hg => rfl); (case hr => first | (go_simp; done) | (go_simp; rfl)); intro gb101 hg w3 hbox hb; have n0_ := Aside0.mk (below_step (by repeat (first | (with_reducible first | exact HB.out | apply below_alloc | apply pw_below_drewN | apply below_drew1) | exact HB.out)) hb); have n1_ := Aside0.mk (hbox); have n2_ := Aside0.mk ((by rw [hg]; exact (below_size (by repeat (first | (with_reducible first | exact HB.out | apply below_alloc | apply pw_below_drewN | apply below_drew1) | exact HB.out))) : w.heap.size ≤ gb101)); have n3_ := Aside0.mk ((by rw [hg]; exact (below_size (by repeat (first | (with_reducible first | exact HB.out | apply below_alloc | apply pw_below_drewN | apply below_drew1) | exact HB.out))) : w.heap.size ≤ gb101)); clear HB; have HB := n0_; have BK101 := n1_; have GW101 := n2_; have GE101 := n3_; clear n0_ n1_ n2_ n3_; clear hb hbox hg) | ((with_reducible refine gate_dst (N := 3) rfl ?_); refine box_event ?hg (N := 3) ?hd (cs := #[.int .i64 a1_0, .int .i64 a1_1, .slice A1_2 l1_2.length c1_2]) (t := 29) ?hr ?_; (case hd => rfl); (case hg => rfl); (case hr => first | (go_simp; done) | (go_simp; rfl)); intro gb102 hg w4 hbox hb; have n0_ := Aside0.mk (blk_below (g := gb101) (o := .cells #[.int .i64 a0_0, .int .i64 a0_1, .slice A0_2 l0_2.length c0_2] 29 (0, 0)) (by (with_reducible repeat (first | refine blk_drewN ?_ _ | refine blk_drew ?_ | refine blk_alloc ?_ _)); exact BK101.out) hb); have n1_ := Aside0.mk (below_step (by repeat (first | (with_reducible first | exact HB.out | apply below_alloc | apply pw_below_drewN | apply below_drew1 | refine below_set ?_ GE101.out) | exact HB.out)) hb); have n2_ := Aside0.mk (hbox); have n3_ := Aside0.mk ((by rw [hg]; exact (below_size (by repeat (first | (with_reducible first | exact HB.out | apply below_alloc | apply pw_below_drewN | apply below_drew1 | refine below_set ?_ GE101.out) | exact HB.out))) : w.heap.size ≤ gb102)); have n4_ := Aside0.mk ((by rw [hg]; exact (below_size (by repeat (first | (with_reducible first | exact HB.out | apply below_alloc | apply pw_below_drewN | apply below_drew1 | refine below_set ?_ GE101.out) | exact HB.out))) : w.heap.size ≤ gb102)); have n5_ := Aside0.mk ((by rw [hg]; exact Nat.ne_of_lt (blk_lt (g := gb101) (o := .cells #[.int .i64 a0_0, .int .i64 a0_1, .slice A0_2 l0_2.length c0_2] 29 (0, 0)) (by (with_reducible repeat (first | refine blk_drewN ?_ _ | refine blk_drew ?_ | refine blk_alloc ?_ _)); exact BK101.out)) : gb101 ≠ gb102)); have n6_ := Aside0.mk ((by rw [hg]; exact Nat.ne_of_gt (blk_lt (g := gb101) (o := .cells #[.int .i64 a0_0, .int .i64 a0_1, .slice A0_2 l0_2.length c0_2] 29 (0, 0)) (by (with_reducible repeat (first | refine blk_drewN ?_ _ | refine blk_drew ?_ | refine blk_alloc ?_ _)); exact BK101.out)) : gb102 ≠ gb101)); clear BK101; clear HB; have BK101 := n0_; have HB := n1_; have BK102 := n2_; have GW102 := n3_; have GE102 := n4_; have NB101_102 := n5_; have NB102_101 := n6_; clear n0_ n1_ n2_ n3_ n4_ n5_ n6_; clear hb hbox hg; have hnb5 := NB101_102.out; have hnc5 := NB102_101.out; have hcz6_0 : w4.cell? ⟨gb101, 0, none⟩ = some (.int .i64 a0_0) := (blk_cell BK101.out 0).trans rfl; have hcz6_1 : w4.cell? ⟨gb101, 1, none⟩ = some (.int .i64 a0_1) := (blk_cell BK101.out 1).trans rfl; have hcz6_2 : w4.cell? ⟨gb101, 2, none⟩ = some (.slice A0_2 l0_2.length c0_2) := (blk_cell BK101.out 2).trans rfl; have hfz6_0 := blk_frozen BK101.out 0; have hfz6_1 := blk_frozen BK101.out 1; have hfz6_2 := blk_frozen BK101.out 2))
  go_loopg [11] k (fun kq v11 w' => ∃ (x11_1 : Int), v11 = .int .i64 x11_1 ∧ Aside0 (spec_cuFirst.l0 kq l0_2 (l0_2.length : Int) x11_1 a0_0 a0_1 l0_2 a1_0 a1_1 l1_2 = some r) ∧ Aside0 (kq ≤ k) ∧ Aside0 (w'.heap[gb101]? = some (.cells #[.int .i64 a0_0, .int .i64 a0_1, (.slice A0_2 l0_2.length c0_2)] 29 (0, 0))) ∧ Aside0 (w'.heap[gb102]? = some (.cells #[.int .i64 a1_0, .int .i64 a1_1, (.slice A1_2 l1_2.length c1_2)] 29 (0, 0))) ∧ Aside0 (Below w.heap.size w w'))
  case atStart => exact ⟨(0), (by first | rfl | (simp; done) | (simp [*]; done)), H', ⟨Nat.le_refl _⟩, ⟨by (with_reducible repeat (first | refine blk_drewN ?_ _ | refine blk_drew ?_ | refine blk_alloc ?_ _)); exact BK101.out⟩, ⟨by (with_reducible repeat (first | refine blk_drewN ?_ _ | refine blk_drew ?_ | refine blk_alloc ?_ _)); exact BK102.out⟩, ⟨by repeat (first | (with_reducible first | exact HB.out | apply below_alloc | apply pw_below_drewN | apply below_drew1 | refine below_set ?_ GE101.out | refine below_set ?_ GE102.out) | exact HB.out)⟩⟩
  case round =>
    clear H'
    try clear c1
    try clear p2
    try clear c5
    try clear hcz6_0
    try clear hcz6_1
    try clear hcz6_2
    try clear hfz6_0
    try clear hfz6_1
    try clear hfz6_2
    obtain ⟨x11_1, rfl, HA, HK1, BK101, BK102, HB⟩ := hrel
    cases gk with
    | zero => exact absurd HA.out (by simp [spec_cuFirst.l0])
    | succ k1 =>
      have H := HA.out
      clear HA
      simp only [spec_cuFirst.l0] at H
      by_cases c7 : x11_1 < (l0_2.length : Int)
      · rw [if_pos c7] at H
        have c7b0 : decide (x11_1 < (l0_2.length : Int)) = true := decide_eq_true c7
        clear c7
        by_cases c8 : 0 ≤ x11_1
        · rw [if_pos c8] at H
          have c8b0 : decide (0 ≤ x11_1) = true := decide_eq_true c8
          clear c8
          by_cases c9 : x11_1 < (l0_2.length : Int)
          · rw [if_pos c9] at H
            have c9b0 : decide (x11_1 < (l0_2.length : Int)) = true := decide_eq_true c9
            clear c9
            by_cases c10 : x11_1 ≥ (l1_2.length : Int)
            · rw [if_pos c10] at H
              have c10b0 : decide ((l1_2.length : Int) ≤ x11_1) = true := decide_eq_true c10
              clear c10
              obtain rfl := Option.some.inj H
              have p103 : 0 ≤ (x11_1 : Int) := of_decide_eq_true (by first | (with_reducible assumption) | assumption)
              have q103 : x11_1 < (l0_2.length : Int) := of_decide_eq_true (by first | (with_reducible assumption) | assumption)
              obtain ⟨ad103, e103, hx103_0, hx103_1, hx103_2⟩ := at_T42 HR0_2.out x11_1 p103 q103
              cases e103
              replace hx103_0 := (HB.out.cell (World.block_lt_of_cell? w _ hx103_0)).trans hx103_0
              replace hx103_1 := (HB.out.cell (World.block_lt_of_cell? w _ hx103_1)).trans hx103_1
              replace hx103_2 := (HB.out.cell (World.block_lt_of_cell? w _ hx103_2)).trans hx103_2
              replace p103 := eq_true p103
              replace q103 := eq_true q103
              go_wp2_with (first | ((with_reducible refine gate_dst (N := 6) rfl ?_); refine box_event ?hg (N := 6) ?hd (cs := #[.int .i64 0, .int .i64 0, .int .i64 0]) (t := 42) ?hr ?_; (case hd => rfl); (case hg => rfl); (case hr => first | (go_simp; done) | (go_simp; rfl)); intro gb104 hg w11 hbox hb; have n0_ := Aside0.mk (blk_below (g := gb101) (o := .cells #[.int .i64 a0_0, .int .i64 a0_1, .slice (some ad103) l0_2.length c0_2] 29 (0, 0)) (by (with_reducible repeat (first | refine blk_drewN ?_ _ | refine blk_drew ?_ | refine blk_alloc ?_ _)); exact BK101.out) hb); have n1_ := Aside0.mk (blk_below (g := gb102) (o := .cells #[.int .i64 a1_0, .int .i64 a1_1, .slice A1_2 l1_2.length c1_2] 29 (0, 0)) (by (with_reducible repeat (first | refine blk_drewN ?_ _ | refine blk_drew ?_ | refine blk_alloc ?_ _)); exact BK102.out) hb); have n2_ := Aside0.mk (below_step (by repeat (first | (with_reducible first | exact HB.out | apply below_alloc | apply pw_below_drewN | apply below_drew1 | refine below_set ?_ GE101.out | refine below_set ?_ GE102.out) | exact HB.out)) hb); have n3_ := Aside0.mk (hbox); have n4_ := Aside0.mk ((by rw [hg]; exact (below_size (by repeat (first | (with_reducible first | exact HB.out | apply below_alloc | apply pw_below_drewN | apply below_drew1 | refine below_set ?_ GE101.out | refine below_set ?_ GE102.out) | exact HB.out))) : w.heap.size ≤ gb104)); have n5_ := Aside0.mk ((by rw [hg]; exact (below_size (by repeat (first | (with_reducible first | exact HB.out | apply below_alloc | apply pw_below_drewN | apply below_drew1 | refine below_set ?_ GE101.out | refine below_set ?_ GE102.out) | exact HB.out))) : w.heap.size ≤ gb104)); have n6_ := Aside0.mk ((by rw [hg]; exact Nat.ne_of_lt (blk_lt (g := gb101) (o := .cells #[.int .i64 a0_0, .int .i64 a0_1, .slice (some ad103) l0_2.length c0_2] 29 (0, 0)) (by (with_reducible repeat (first | refine blk_drewN ?_ _ | refine blk_drew ?_ | refine blk_alloc ?_ _)); exact BK101.out)) : gb101 ≠ gb104)); have n7_ := Aside0.mk ((by rw [hg]; exact Nat.ne_of_gt (blk_lt (g := gb101) (o := .cells #[.int .i64 a0_0, .int .i64 a0_1, .slice (some ad103) l0_2.length c0_2] 29 (0, 0)) (by (with_reducible repeat (first | refine blk_drewN ?_ _ | refine blk_drew ?_ | refine blk_alloc ?_ _)); exact BK101.out)) : gb104 ≠ gb101)); have n8_ := Aside0.mk ((by rw [hg]; exact Nat.ne_of_lt (blk_lt (g := gb102) (o := .cells #[.int .i64 a1_0, .int .i64 a1_1, .slice A1_2 l1_2.length c1_2] 29 (0, 0)) (by (with_reducible repeat (first | refine blk_drewN ?_ _ | refine blk_drew ?_ | refine blk_alloc ?_ _)); exact BK102.out)) : gb102 ≠ gb104)); have n9_ := Aside0.mk ((by rw [hg]; exact Nat.ne_of_gt (blk_lt (g := gb102) (o := .cells #[.int .i64 a1_0, .int .i64 a1_1, .slice A1_2 l1_2.length c1_2] 29 (0, 0)) (by (with_reducible repeat (first | refine blk_drewN ?_ _ | refine blk_drew ?_ | refine blk_alloc ?_ _)); exact BK102.out)) : gb104 ≠ gb102)); clear BK101; clear BK102; clear HB; have BK101 := n0_; have BK102 := n1_; have HB := n2_; have BK104 := n3_; have GW104 := n4_; have GE104 := n5_; have NB101_104 := n6_; have NB104_101 := n7_; have NB102_104 := n8_; have NB104_102 := n9_; clear n0_ n1_ n2_ n3_ n4_ n5_ n6_ n7_ n8_ n9_; clear hb hbox hg; have hnb12 := NB104_101.out; have hnc12 := NB101_104.out; have hnb13 := NB104_102.out; have hnc13 := NB102_104.out; have hcz14_0 : w11.cell? ⟨gb104, 0, none⟩ = some (.int .i64 0) := (blk_cell BK104.out 0).trans rfl; have hcz14_1 : w11.cell? ⟨gb104, 1, none⟩ = some (.int .i64 0) := (blk_cell BK104.out 1).trans rfl; have hcz14_2 : w11.cell? ⟨gb104, 2, none⟩ = some (.int .i64 0) := (blk_cell BK104.out 2).trans rfl; have hfz14_0 := blk_frozen BK104.out 0; have hfz14_1 := blk_frozen BK104.out 1; have hfz14_2 := blk_frozen BK104.out 2; have hnb15 := NB102_101.out; have hnc15 := NB101_102.out; have hcz16_0 : w11.cell? ⟨gb102, 0, none⟩ = some (.int .i64 a1_0) := (blk_cell BK102.out 0).trans rfl; have hcz16_1 : w11.cell? ⟨gb102, 1, none⟩ = some (.int .i64 a1_1) := (blk_cell BK102.out 1).trans rfl; have hcz16_2 : w11.cell? ⟨gb102, 2, none⟩ = some (.slice A1_2 l1_2.length c1_2) := (blk_cell BK102.out 2).trans rfl; have hfz16_0 := blk_frozen BK102.out 0; have hfz16_1 := blk_frozen BK102.out 1; have hfz16_2 := blk_frozen BK102.out 2))
              go_ret
              exact ⟨by first | rfl | (simp [errW_none, errW_some] <;> rfl) | (simp [*, errW_none, errW_some] <;> rfl), by repeat (first | (with_reducible first | exact HB.out | apply below_alloc | apply pw_below_drewN | apply below_drew1 | refine below_set ?_ GE101.out | refine below_set ?_ GE102.out | refine below_set ?_ GE104.out) | exact HB.out)⟩
            · rw [if_neg c10] at H
              have c10b0 : decide ((l1_2.length : Int) ≤ x11_1) = false := decide_eq_false c10
              clear c10
              by_cases c17 : x11_1 < (l1_2.length : Int)
              · rw [if_pos c17] at H
                have c17b0 : decide (x11_1 < (l1_2.length : Int)) = true := decide_eq_true c17
                clear c17
                by_cases c18 : (!(((rd_T42 l0_2 x11_1).f0) == ((rd_T42 l1_2 x11_1).f0)) || (!(((rd_T42 l0_2 x11_1).f1) == ((rd_T42 l1_2 x11_1).f1)) || (!(((rd_T42 l0_2 x11_1).f2) == ((rd_T42 l1_2 x11_1).f2))))) = true
                · rw [if_pos c18] at H
                  have c18b0 : (!(((rd_T42 l0_2 x11_1).f0) == ((rd_T42 l1_2 x11_1).f0)) || (!(((rd_T42 l0_2 x11_1).f1) == ((rd_T42 l1_2 x11_1).f1)) || (!(((rd_T42 l0_2 x11_1).f2) == ((rd_T42 l1_2 x11_1).f2))))) = true := c18
                  clear c18
                  obtain ⟨y107, hy107⟩ : ∃ y_ : List Int, y_ = (([(rd_T42 l0_2 x11_1).f0, (rd_T42 l0_2 x11_1).f1, (rd_T42 l0_2 x11_1).f2] : List Int)) := ⟨_, rfl⟩
                  replace H : ((spec_cuBefore.f k1 y107 (([(rd_T42 l1_2 x11_1).f0, (rd_T42 l1_2 x11_1).f1, (rd_T42 l1_2 x11_1).f2] : List Int))).bind fun t113 => (some t113)) = some r := by first | (rw [hy107]; with_reducible exact H) | (have H2_ := (Option.bind_some _ _).symm.trans H; rw [hy107]; with_reducible exact H2_) | (have H2_ := (Option.bind_some _ _).symm.trans H; with_reducible exact H2_) | with_reducible exact H | (rw [hy107]; exact H) | exact H
                  have Ny107 := Aside0.mk hy107
                  clear hy107
                  obtain ⟨y110, hy110⟩ : ∃ y_ : List Int, y_ = (([(rd_T42 l1_2 x11_1).f0, (rd_T42 l1_2 x11_1).f1, (rd_T42 l1_2 x11_1).f2] : List Int)) := ⟨_, rfl⟩
                  replace H : ((spec_cuBefore.f k1 y107 y110).bind fun t113 => (some t113)) = some r := by first | (rw [hy110]; with_reducible exact H) | (have H2_ := (Option.bind_some _ _).symm.trans H; rw [hy110]; with_reducible exact H2_) | (have H2_ := (Option.bind_some _ _).symm.trans H; with_reducible exact H2_) | with_reducible exact H | (rw [hy110]; exact H) | exact H
                  have Ny110 := Aside0.mk hy110
                  clear hy110
                  replace H := Option.bind_eq_some_iff.mp H
                  obtain ⟨t113, A190, H⟩ := H
                  replace H : (some t113) = some r := H
                  have A19 := Aside0.mk A190
                  clear A190
                  obtain rfl := Option.some.inj H
                  have p103 : 0 ≤ (x11_1 : Int) := of_decide_eq_true (by first | (with_reducible assumption) | assumption)
                  have q103 : x11_1 < (l0_2.length : Int) := of_decide_eq_true (by first | (with_reducible assumption) | assumption)
                  obtain ⟨ad103, e103, hx103_0, hx103_1, hx103_2⟩ := at_T42 HR0_2.out x11_1 p103 q103
                  cases e103
                  replace hx103_0 := (HB.out.cell (World.block_lt_of_cell? w _ hx103_0)).trans hx103_0
                  replace hx103_1 := (HB.out.cell (World.block_lt_of_cell? w _ hx103_1)).trans hx103_1
                  replace hx103_2 := (HB.out.cell (World.block_lt_of_cell? w _ hx103_2)).trans hx103_2
                  replace p103 := eq_true p103
                  replace q103 := eq_true q103
                  go_wp2_with (first | ((with_reducible refine gate_dst (N := 6) rfl ?_); refine box_event ?hg (N := 6) ?hd (cs := #[.int .i64 0, .int .i64 0, .int .i64 0]) (t := 42) ?hr ?_; (case hd => rfl); (case hg => rfl); (case hr => first | (go_simp; done) | (go_simp; rfl)); intro gb104 hg w20 hbox hb; have n0_ := Aside0.mk (blk_below (g := gb101) (o := .cells #[.int .i64 a0_0, .int .i64 a0_1, .slice (some ad103) l0_2.length c0_2] 29 (0, 0)) (by (with_reducible repeat (first | refine blk_drewN ?_ _ | refine blk_drew ?_ | refine blk_alloc ?_ _)); exact BK101.out) hb); have n1_ := Aside0.mk (blk_below (g := gb102) (o := .cells #[.int .i64 a1_0, .int .i64 a1_1, .slice A1_2 l1_2.length c1_2] 29 (0, 0)) (by (with_reducible repeat (first | refine blk_drewN ?_ _ | refine blk_drew ?_ | refine blk_alloc ?_ _)); exact BK102.out) hb); have n2_ := Aside0.mk (below_step (by repeat (first | (with_reducible first | exact HB.out | apply below_alloc | apply pw_below_drewN | apply below_drew1 | refine below_set ?_ GE101.out | refine below_set ?_ GE102.out) | exact HB.out)) hb); have n3_ := Aside0.mk (hbox); have n4_ := Aside0.mk ((by rw [hg]; exact (below_size (by repeat (first | (with_reducible first | exact HB.out | apply below_alloc | apply pw_below_drewN | apply below_drew1 | refine below_set ?_ GE101.out | refine below_set ?_ GE102.out) | exact HB.out))) : w.heap.size ≤ gb104)); have n5_ := Aside0.mk ((by rw [hg]; exact (below_size (by repeat (first | (with_reducible first | exact HB.out | apply below_alloc | apply pw_below_drewN | apply below_drew1 | refine below_set ?_ GE101.out | refine below_set ?_ GE102.out) | exact HB.out))) : w.heap.size ≤ gb104)); have n6_ := Aside0.mk ((by rw [hg]; exact Nat.ne_of_lt (blk_lt (g := gb101) (o := .cells #[.int .i64 a0_0, .int .i64 a0_1, .slice (some ad103) l0_2.length c0_2] 29 (0, 0)) (by (with_reducible repeat (first | refine blk_drewN ?_ _ | refine blk_drew ?_ | refine blk_alloc ?_ _)); exact BK101.out)) : gb101 ≠ gb104)); have n7_ := Aside0.mk ((by rw [hg]; exact Nat.ne_of_gt (blk_lt (g := gb101) (o := .cells #[.int .i64 a0_0, .int .i64 a0_1, .slice (some ad103) l0_2.length c0_2] 29 (0, 0)) (by (with_reducible repeat (first | refine blk_drewN ?_ _ | refine blk_drew ?_ | refine blk_alloc ?_ _)); exact BK101.out)) : gb104 ≠ gb101)); have n8_ := Aside0.mk ((by rw [hg]; exact Nat.ne_of_lt (blk_lt (g := gb102) (o := .cells #[.int .i64 a1_0, .int .i64 a1_1, .slice A1_2 l1_2.length c1_2] 29 (0, 0)) (by (with_reducible repeat (first | refine blk_drewN ?_ _ | refine blk_drew ?_ | refine blk_alloc ?_ _)); exact BK102.out)) : gb102 ≠ gb104)); have n9_ := Aside0.mk ((by rw [hg]; exact Nat.ne_of_gt (blk_lt (g := gb102) (o := .cells #[.int .i64 a1_0, .int .i64 a1_1, .slice A1_2 l1_2.length c1_2] 29 (0, 0)) (by (with_reducible repeat (first | refine blk_drewN ?_ _ | refine blk_drew ?_ | refine blk_alloc ?_ _)); exact BK102.out)) : gb104 ≠ gb102)); clear BK101; clear BK102; clear HB; have BK101 := n0_; have BK102 := n1_; have HB := n2_; have BK104 := n3_; have GW104 := n4_; have GE104 := n5_; have NB101_104 := n6_; have NB104_101 := n7_; have NB102_104 := n8_; have NB104_102 := n9_; clear n0_ n1_ n2_ n3_ n4_ n5_ n6_ n7_ n8_ n9_; clear hb hbox hg; have hnb21 := NB104_101.out; have hnc21 := NB101_104.out; have hnb22 := NB104_102.out; have hnc22 := NB102_104.out; have hcz23_0 : w20.cell? ⟨gb104, 0, none⟩ = some (.int .i64 0) := (blk_cell BK104.out 0).trans rfl; have hcz23_1 : w20.cell? ⟨gb104, 1, none⟩ = some (.int .i64 0) := (blk_cell BK104.out 1).trans rfl; have hcz23_2 : w20.cell? ⟨gb104, 2, none⟩ = some (.int .i64 0) := (blk_cell BK104.out 2).trans rfl; have hfz23_0 := blk_frozen BK104.out 0; have hfz23_1 := blk_frozen BK104.out 1; have hfz23_2 := blk_frozen BK104.out 2; have hnb24 := NB102_101.out; have hnc24 := NB101_102.out; have hcz25_0 : w20.cell? ⟨gb102, 0, none⟩ = some (.int .i64 a1_0) := (blk_cell BK102.out 0).trans rfl; have hcz25_1 : w20.cell? ⟨gb102, 1, none⟩ = some (.int .i64 a1_1) := (blk_cell BK102.out 1).trans rfl; have hcz25_2 : w20.cell? ⟨gb102, 2, none⟩ = some (.slice A1_2 l1_2.length c1_2) := (blk_cell BK102.out 2).trans rfl; have hfz25_0 := blk_frozen BK102.out 0; have hfz25_1 := blk_frozen BK102.out 1; have hfz25_2 := blk_frozen BK102.out 2; have p105 : 0 ≤ (x11_1 : Int) := of_decide_eq_true (by first | (with_reducible assumption) | assumption); have q105 : x11_1 < (l1_2.length : Int) := of_decide_eq_true (by first | (with_reducible assumption) | assumption); obtain ⟨ad105, e105, hx105_0, hx105_1, hx105_2⟩ := at_T42 HR1_2.out x11_1 p105 q105; cases e105; have hn105_0 : ad105.block ≠ gb104 := Nat.ne_of_lt (Nat.lt_of_lt_of_le (by have := World.block_lt_of_cell? _ _ hx105_0; first | rwa [add_block] at this | exact this) GW104.out); have hn105_1 : ad105.block ≠ gb104 := Nat.ne_of_lt (Nat.lt_of_lt_of_le (by have := World.block_lt_of_cell? _ _ hx105_0; first | rwa [add_block] at this | exact this) GW104.out); have hn105_2 : ad105.block ≠ gb104 := Nat.ne_of_lt (Nat.lt_of_lt_of_le (by have := World.block_lt_of_cell? _ _ hx105_0; first | rwa [add_block] at this | exact this) GW104.out); replace hx105_0 := (HB.out.cell (World.block_lt_of_cell? w _ hx105_0)).trans hx105_0; replace hx105_1 := (HB.out.cell (World.block_lt_of_cell? w _ hx105_1)).trans hx105_1; replace hx105_2 := (HB.out.cell (World.block_lt_of_cell? w _ hx105_2)).trans hx105_2; replace hx105_0 := (cell_far (p := ⟨gb104, 0, none⟩) (by first | (rw [add_block]; exact hn105_0) | (show (Addr.add _ _).block ≠ _; rw [add_block]; exact hn105_0) | exact hn105_0) (.int .i64 ((rd_T42 l0_2 x11_1).f0))).trans hx105_0; replace hx105_1 := (cell_far (p := ⟨gb104, 0, none⟩) (by first | (rw [add_block]; exact hn105_0) | (show (Addr.add _ _).block ≠ _; rw [add_block]; exact hn105_0) | exact hn105_0) (.int .i64 ((rd_T42 l0_2 x11_1).f0))).trans hx105_1; replace hx105_2 := (cell_far (p := ⟨gb104, 0, none⟩) (by first | (rw [add_block]; exact hn105_0) | (show (Addr.add _ _).block ≠ _; rw [add_block]; exact hn105_0) | exact hn105_0) (.int .i64 ((rd_T42 l0_2 x11_1).f0))).trans hx105_2; replace hx105_0 := (cell_far (p := ⟨gb104, 1, none⟩) (by first | (rw [add_block]; exact hn105_1) | (show (Addr.add _ _).block ≠ _; rw [add_block]; exact hn105_1) | exact hn105_1) (.int .i64 ((rd_T42 l0_2 x11_1).f1))).trans hx105_0; replace hx105_1 := (cell_far (p := ⟨gb104, 1, none⟩) (by first | (rw [add_block]; exact hn105_1) | (show (Addr.add _ _).block ≠ _; rw [add_block]; exact hn105_1) | exact hn105_1) (.int .i64 ((rd_T42 l0_2 x11_1).f1))).trans hx105_1; replace hx105_2 := (cell_far (p := ⟨gb104, 1, none⟩) (by first | (rw [add_block]; exact hn105_1) | (show (Addr.add _ _).block ≠ _; rw [add_block]; exact hn105_1) | exact hn105_1) (.int .i64 ((rd_T42 l0_2 x11_1).f1))).trans hx105_2; replace hx105_0 := (cell_far (p := ⟨gb104, 2, none⟩) (by first | (rw [add_block]; exact hn105_2) | (show (Addr.add _ _).block ≠ _; rw [add_block]; exact hn105_2) | exact hn105_2) (.int .i64 ((rd_T42 l0_2 x11_1).f2))).trans hx105_0; replace hx105_1 := (cell_far (p := ⟨gb104, 2, none⟩) (by first | (rw [add_block]; exact hn105_2) | (show (Addr.add _ _).block ≠ _; rw [add_block]; exact hn105_2) | exact hn105_2) (.int .i64 ((rd_T42 l0_2 x11_1).f2))).trans hx105_1; replace hx105_2 := (cell_far (p := ⟨gb104, 2, none⟩) (by first | (rw [add_block]; exact hn105_2) | (show (Addr.add _ _).block ≠ _; rw [add_block]; exact hn105_2) | exact hn105_2) (.int .i64 ((rd_T42 l0_2 x11_1).f2))).trans hx105_2; clear hn105_0; clear hn105_1; clear hn105_2; replace p105 := eq_true p105; replace q105 := eq_true q105) | ((with_reducible refine gate_dst (N := 7) rfl ?_); refine box_event ?hg (N := 7) ?hd (cs := #[.int .i64 0, .int .i64 0, .int .i64 0]) (t := 42) ?hr ?_; (case hd => rfl); (case hg => rfl); (case hr => first | (go_simp; done) | (go_simp; rfl)); intro gb106 hg w26 hbox hb; have n0_ := Aside0.mk (blk_below (g := gb101) (o := .cells #[.int .i64 a0_0, .int .i64 a0_1, .slice (some ad103) l0_2.length c0_2] 29 (0, 0)) (by (with_reducible repeat (first | refine blk_drewN ?_ _ | refine blk_drew ?_ | refine blk_alloc ?_ _)); refine blk_far ?_ NB101_104.out _; (with_reducible repeat (first | refine blk_drewN ?_ _ | refine blk_drew ?_ | refine blk_alloc ?_ _)); refine blk_far ?_ NB101_104.out _; (with_reducible repeat (first | refine blk_drewN ?_ _ | refine blk_drew ?_ | refine blk_alloc ?_ _)); refine blk_far ?_ NB101_104.out _; (with_reducible repeat (first | refine blk_drewN ?_ _ | refine blk_drew ?_ | refine blk_alloc ?_ _)); exact BK101.out) hb); have n1_ := Aside0.mk (blk_below (g := gb102) (o := .cells #[.int .i64 a1_0, .int .i64 a1_1, .slice (some ad105) l1_2.length c1_2] 29 (0, 0)) (by (with_reducible repeat (first | refine blk_drewN ?_ _ | refine blk_drew ?_ | refine blk_alloc ?_ _)); refine blk_far ?_ NB102_104.out _; (with_reducible repeat (first | refine blk_drewN ?_ _ | refine blk_drew ?_ | refine blk_alloc ?_ _)); refine blk_far ?_ NB102_104.out _; (with_reducible repeat (first | refine blk_drewN ?_ _ | refine blk_drew ?_ | refine blk_alloc ?_ _)); refine blk_far ?_ NB102_104.out _; (with_reducible repeat (first | refine blk_drewN ?_ _ | refine blk_drew ?_ | refine blk_alloc ?_ _)); exact BK102.out) hb); have n2_ := Aside0.mk (blk_below (g := gb104) (o := .cells #[.int .i64 ((rd_T42 l0_2 x11_1).f0), .int .i64 ((rd_T42 l0_2 x11_1).f1), .int .i64 ((rd_T42 l0_2 x11_1).f2)] 42 (0, 0)) (by (with_reducible repeat (first | refine blk_drewN ?_ _ | refine blk_drew ?_ | refine blk_alloc ?_ _)); refine blk_put (cs := #[.int .i64 ((rd_T42 l0_2 x11_1).f0), .int .i64 ((rd_T42 l0_2 x11_1).f1), .int .i64 0]) ?_ 2 _ rfl; (with_reducible repeat (first | refine blk_drewN ?_ _ | refine blk_drew ?_ | refine blk_alloc ?_ _)); refine blk_put (cs := #[.int .i64 ((rd_T42 l0_2 x11_1).f0), .int .i64 0, .int .i64 0]) ?_ 1 _ rfl; (with_reducible repeat (first | refine blk_drewN ?_ _ | refine blk_drew ?_ | refine blk_alloc ?_ _)); refine blk_put (cs := #[.int .i64 0, .int .i64 0, .int .i64 0]) ?_ 0 _ rfl; (with_reducible repeat (first | refine blk_drewN ?_ _ | refine blk_drew ?_ | refine blk_alloc ?_ _)); exact BK104.out) hb); have n3_ := Aside0.mk (below_step (by repeat (first | (with_reducible first | exact HB.out | apply below_alloc | apply pw_below_drewN | apply below_drew1 | refine below_set ?_ GE101.out | refine below_set ?_ GE102.out | refine below_set ?_ GE104.out) | exact HB.out)) hb); have n4_ := Aside0.mk (hbox); have n5_ := Aside0.mk ((by rw [hg]; exact (below_size (by repeat (first | (with_reducible first | exact HB.out | apply below_alloc | apply pw_below_drewN | apply below_drew1 | refine below_set ?_ GE101.out | refine below_set ?_ GE102.out | refine below_set ?_ GE104.out) | exact HB.out))) : w.heap.size ≤ gb106)); have n6_ := Aside0.mk ((by rw [hg]; exact (below_size (by repeat (first | (with_reducible first | exact HB.out | apply below_alloc | apply pw_below_drewN | apply below_drew1 | refine below_set ?_ GE101.out | refine below_set ?_ GE102.out | refine below_set ?_ GE104.out) | exact HB.out))) : w.heap.size ≤ gb106)); have n7_ := Aside0.mk ((by rw [hg]; exact Nat.ne_of_lt (blk_lt (g := gb101) (o := .cells #[.int .i64 a0_0, .int .i64 a0_1, .slice (some ad103) l0_2.length c0_2] 29 (0, 0)) (by (with_reducible repeat (first | refine blk_drewN ?_ _ | refine blk_drew ?_ | refine blk_alloc ?_ _)); refine blk_far ?_ NB101_104.out _; (with_reducible repeat (first | refine blk_drewN ?_ _ | refine blk_drew ?_ | refine blk_alloc ?_ _)); refine blk_far ?_ NB101_104.out _; (with_reducible repeat (first | refine blk_drewN ?_ _ | refine blk_drew ?_ | refine blk_alloc ?_ _)); refine blk_far ?_ NB101_104.out _; (with_reducible repeat (first | refine blk_drewN ?_ _ | refine blk_drew ?_ | refine blk_alloc ?_ _)); exact BK101.out)) : gb101 ≠ gb106)); have n8_ := Aside0.mk ((by rw [hg]; exact Nat.ne_of_gt (blk_lt (g := gb101) (o := .cells #[.int .i64 a0_0, .int .i64 a0_1, .slice (some ad103) l0_2.length c0_2] 29 (0, 0)) (by (with_reducible repeat (first | refine blk_drewN ?_ _ | refine blk_drew ?_ | refine blk_alloc ?_ _)); refine blk_far ?_ NB101_104.out _; (with_reducible repeat (first | refine blk_drewN ?_ _ | refine blk_drew ?_ | refine blk_alloc ?_ _)); refine blk_far ?_ NB101_104.out _; (with_reducible repeat (first | refine blk_drewN ?_ _ | refine blk_drew ?_ | refine blk_alloc ?_ _)); refine blk_far ?_ NB101_104.out _; (with_reducible repeat (first | refine blk_drewN ?_ _ | refine blk_drew ?_ | refine blk_alloc ?_ _)); exact BK101.out)) : gb106 ≠ gb101)); have n9_ := Aside0.mk ((by rw [hg]; exact Nat.ne_of_lt (blk_lt (g := gb102) (o := .cells #[.int .i64 a1_0, .int .i64 a1_1, .slice (some ad105) l1_2.length c1_2] 29 (0, 0)) (by (with_reducible repeat (first | refine blk_drewN ?_ _ | refine blk_drew ?_ | refine blk_alloc ?_ _)); refine blk_far ?_ NB102_104.out _; (with_reducible repeat (first | refine blk_drewN ?_ _ | refine blk_drew ?_ | refine blk_alloc ?_ _)); refine blk_far ?_ NB102_104.out _; (with_reducible repeat (first | refine blk_drewN ?_ _ | refine blk_drew ?_ | refine blk_alloc ?_ _)); refine blk_far ?_ NB102_104.out _; (with_reducible repeat (first | refine blk_drewN ?_ _ | refine blk_drew ?_ | refine blk_alloc ?_ _)); exact BK102.out)) : gb102 ≠ gb106)); have n10_ := Aside0.mk ((by rw [hg]; exact Nat.ne_of_gt (blk_lt (g := gb102) (o := .cells #[.int .i64 a1_0, .int .i64 a1_1, .slice (some ad105) l1_2.length c1_2] 29 (0, 0)) (by (with_reducible repeat (first | refine blk_drewN ?_ _ | refine blk_drew ?_ | refine blk_alloc ?_ _)); refine blk_far ?_ NB102_104.out _; (with_reducible repeat (first | refine blk_drewN ?_ _ | refine blk_drew ?_ | refine blk_alloc ?_ _)); refine blk_far ?_ NB102_104.out _; (with_reducible repeat (first | refine blk_drewN ?_ _ | refine blk_drew ?_ | refine blk_alloc ?_ _)); refine blk_far ?_ NB102_104.out _; (with_reducible repeat (first | refine blk_drewN ?_ _ | refine blk_drew ?_ | refine blk_alloc ?_ _)); exact BK102.out)) : gb106 ≠ gb102)); have n11_ := Aside0.mk ((by rw [hg]; exact Nat.ne_of_lt (blk_lt (g := gb104) (o := .cells #[.int .i64 ((rd_T42 l0_2 x11_1).f0), .int .i64 ((rd_T42 l0_2 x11_1).f1), .int .i64 ((rd_T42 l0_2 x11_1).f2)] 42 (0, 0)) (by (with_reducible repeat (first | refine blk_drewN ?_ _ | refine blk_drew ?_ | refine blk_alloc ?_ _)); refine blk_put (cs := #[.int .i64 ((rd_T42 l0_2 x11_1).f0), .int .i64 ((rd_T42 l0_2 x11_1).f1), .int .i64 0]) ?_ 2 _ rfl; (with_reducible repeat (first | refine blk_drewN ?_ _ | refine blk_drew ?_ | refine blk_alloc ?_ _)); refine blk_put (cs := #[.int .i64 ((rd_T42 l0_2 x11_1).f0), .int .i64 0, .int .i64 0]) ?_ 1 _ rfl; (with_reducible repeat (first | refine blk_drewN ?_ _ | refine blk_drew ?_ | refine blk_alloc ?_ _)); refine blk_put (cs := #[.int .i64 0, .int .i64 0, .int .i64 0]) ?_ 0 _ rfl; (with_reducible repeat (first | refine blk_drewN ?_ _ | refine blk_drew ?_ | refine blk_alloc ?_ _)); exact BK104.out)) : gb104 ≠ gb106)); have n12_ := Aside0.mk ((by rw [hg]; exact Nat.ne_of_gt (blk_lt (g := gb104) (o := .cells #[.int .i64 ((rd_T42 l0_2 x11_1).f0), .int .i64 ((rd_T42 l0_2 x11_1).f1), .int .i64 ((rd_T42 l0_2 x11_1).f2)] 42 (0, 0)) (by (with_reducible repeat (first | refine blk_drewN ?_ _ | refine blk_drew ?_ | refine blk_alloc ?_ _)); refine blk_put (cs := #[.int .i64 ((rd_T42 l0_2 x11_1).f0), .int .i64 ((rd_T42 l0_2 x11_1).f1), .int .i64 0]) ?_ 2 _ rfl; (with_reducible repeat (first | refine blk_drewN ?_ _ | refine blk_drew ?_ | refine blk_alloc ?_ _)); refine blk_put (cs := #[.int .i64 ((rd_T42 l0_2 x11_1).f0), .int .i64 0, .int .i64 0]) ?_ 1 _ rfl; (with_reducible repeat (first | refine blk_drewN ?_ _ | refine blk_drew ?_ | refine blk_alloc ?_ _)); refine blk_put (cs := #[.int .i64 0, .int .i64 0, .int .i64 0]) ?_ 0 _ rfl; (with_reducible repeat (first | refine blk_drewN ?_ _ | refine blk_drew ?_ | refine blk_alloc ?_ _)); exact BK104.out)) : gb106 ≠ gb104)); clear BK101; clear BK102; clear BK104; clear HB; have BK101 := n0_; have BK102 := n1_; have BK104 := n2_; have HB := n3_; have BK106 := n4_; have GW106 := n5_; have GE106 := n6_; have NB101_106 := n7_; have NB106_101 := n8_; have NB102_106 := n9_; have NB106_102 := n10_; have NB104_106 := n11_; have NB106_104 := n12_; clear n0_ n1_ n2_ n3_ n4_ n5_ n6_ n7_ n8_ n9_ n10_ n11_ n12_; clear hb hbox hg; have hnb27 := NB106_101.out; have hnc27 := NB101_106.out; have hnb28 := NB106_102.out; have hnc28 := NB102_106.out; have hnb29 := NB106_104.out; have hnc29 := NB104_106.out; have hcz30_0 : w26.cell? ⟨gb106, 0, none⟩ = some (.int .i64 0) := (blk_cell BK106.out 0).trans rfl; have hcz30_1 : w26.cell? ⟨gb106, 1, none⟩ = some (.int .i64 0) := (blk_cell BK106.out 1).trans rfl; have hcz30_2 : w26.cell? ⟨gb106, 2, none⟩ = some (.int .i64 0) := (blk_cell BK106.out 2).trans rfl; have hfz30_0 := blk_frozen BK106.out 0; have hfz30_1 := blk_frozen BK106.out 1; have hfz30_2 := blk_frozen BK106.out 2; have hcz31_0 : w26.cell? ⟨gb104, 0, none⟩ = some (.int .i64 ((rd_T42 l0_2 x11_1).f0)) := (blk_cell BK104.out 0).trans rfl; have hcz31_1 : w26.cell? ⟨gb104, 1, none⟩ = some (.int .i64 ((rd_T42 l0_2 x11_1).f1)) := (blk_cell BK104.out 1).trans rfl; have hcz31_2 : w26.cell? ⟨gb104, 2, none⟩ = some (.int .i64 ((rd_T42 l0_2 x11_1).f2)) := (blk_cell BK104.out 2).trans rfl; have hfz31_0 := blk_frozen BK104.out 0; have hfz31_1 := blk_frozen BK104.out 1; have hfz31_2 := blk_frozen BK104.out 2) | ((with_reducible refine gate_dst (N := 35) rfl ?_); refine Kd.R_lit (Kd.int .i64) _ 3 ?hg (N := 35) ?hd (xs := ([(rd_T42 l0_2 x11_1).f0, (rd_T42 l0_2 x11_1).f1, (rd_T42 l0_2 x11_1).f2] : List Int)) (inner := [.int .i64 ((rd_T42 l0_2 x11_1).f0), .int .i64 ((rd_T42 l0_2 x11_1).f1), .int .i64 ((rd_T42 l0_2 x11_1).f2)]) (ok := fun _ => True) (okp := fun _ => True) ?hr ?hp (fun _ hk => hk) trivial (Below.refl _ _) (Nat.le_refl _) (by simp) ?_; (case hd => rfl); (case hg => rfl); (case hr => first | (go_simp; done) | (go_simp; rfl)); (case hp => exact (Reps.one (show Kd.M (Kd.int .i64) _ _ _ ((rd_T42 l0_2 x11_1).f0) [.int .i64 ((rd_T42 l0_2 x11_1).f0)] from rfl) (Reps.one (show Kd.M (Kd.int .i64) _ _ _ ((rd_T42 l0_2 x11_1).f1) [.int .i64 ((rd_T42 l0_2 x11_1).f1)] from rfl) (Reps.one (show Kd.M (Kd.int .i64) _ _ _ ((rd_T42 l0_2 x11_1).f2) [.int .i64 ((rd_T42 l0_2 x11_1).f2)] from rfl) (Reps.none _ _))))); intro v108 w32 ho33 hb hg_ hnew_; clear hg_ hnew_; (first | rw [← Ny107.out] at ho33 | (simp only [Int.reduceToNat] at ho33; rw [← Ny107.out] at ho33)); have n0_ := Aside0.mk (Kd.R_lower ho33 (below_size (by repeat (first | (with_reducible first | exact HB.out | apply below_alloc | apply pw_below_drewN | apply below_drew1 | refine below_set ?_ GE101.out | refine below_set ?_ GE102.out | refine below_set ?_ GE104.out | refine below_set ?_ GE106.out) | exact HB.out)))); have n1_ := Aside0.mk (blk_below (g := gb101) (o := .cells #[.int .i64 a0_0, .int .i64 a0_1, .slice (some ad103) l0_2.length c0_2] 29 (0, 0)) (by (with_reducible repeat (first | refine blk_drewN ?_ _ | refine blk_drew ?_ | refine blk_alloc ?_ _)); refine blk_far ?_ NB101_106.out _; (with_reducible repeat (first | refine blk_drewN ?_ _ | refine blk_drew ?_ | refine blk_alloc ?_ _)); refine blk_far ?_ NB101_106.out _; (with_reducible repeat (first | refine blk_drewN ?_ _ | refine blk_drew ?_ | refine blk_alloc ?_ _)); refine blk_far ?_ NB101_106.out _; (with_reducible repeat (first | refine blk_drewN ?_ _ | refine blk_drew ?_ | refine blk_alloc ?_ _)); exact BK101.out) hb); have n2_ := Aside0.mk (blk_below (g := gb102) (o := .cells #[.int .i64 a1_0, .int .i64 a1_1, .slice (some ad105) l1_2.length c1_2] 29 (0, 0)) (by (with_reducible repeat (first | refine blk_drewN ?_ _ | refine blk_drew ?_ | refine blk_alloc ?_ _)); refine blk_far ?_ NB102_106.out _; (with_reducible repeat (first | refine blk_drewN ?_ _ | refine blk_drew ?_ | refine blk_alloc ?_ _)); refine blk_far ?_ NB102_106.out _; (with_reducible repeat (first | refine blk_drewN ?_ _ | refine blk_drew ?_ | refine blk_alloc ?_ _)); refine blk_far ?_ NB102_106.out _; (with_reducible repeat (first | refine blk_drewN ?_ _ | refine blk_drew ?_ | refine blk_alloc ?_ _)); exact BK102.out) hb); have n3_ := Aside0.mk (blk_below (g := gb104) (o := .cells #[.int .i64 ((rd_T42 l0_2 x11_1).f0), .int .i64 ((rd_T42 l0_2 x11_1).f1), .int .i64 ((rd_T42 l0_2 x11_1).f2)] 42 (0, 0)) (by (with_reducible repeat (first | refine blk_drewN ?_ _ | refine blk_drew ?_ | refine blk_alloc ?_ _)); refine blk_far ?_ NB104_106.out _; (with_reducible repeat (first | refine blk_drewN ?_ _ | refine blk_drew ?_ | refine blk_alloc ?_ _)); refine blk_far ?_ NB104_106.out _; (with_reducible repeat (first | refine blk_drewN ?_ _ | refine blk_drew ?_ | refine blk_alloc ?_ _)); refine blk_far ?_ NB104_106.out _; (with_reducible repeat (first | refine blk_drewN ?_ _ | refine blk_drew ?_ | refine blk_alloc ?_ _)); exact BK104.out) hb); have n4_ := Aside0.mk (blk_below (g := gb106) (o := .cells #[.int .i64 ((rd_T42 l1_2 x11_1).f0), .int .i64 ((rd_T42 l1_2 x11_1).f1), .int .i64 ((rd_T42 l1_2 x11_1).f2)] 42 (0, 0)) (by (with_reducible repeat (first | refine blk_drewN ?_ _ | refine blk_drew ?_ | refine blk_alloc ?_ _)); refine blk_put (cs := #[.int .i64 ((rd_T42 l1_2 x11_1).f0), .int .i64 ((rd_T42 l1_2 x11_1).f1), .int .i64 0]) ?_ 2 _ rfl; (with_reducible repeat (first | refine blk_drewN ?_ _ | refine blk_drew ?_ | refine blk_alloc ?_ _)); refine blk_put (cs := #[.int .i64 ((rd_T42 l1_2 x11_1).f0), .int .i64 0, .int .i64 0]) ?_ 1 _ rfl; (with_reducible repeat (first | refine blk_drewN ?_ _ | refine blk_drew ?_ | refine blk_alloc ?_ _)); refine blk_put (cs := #[.int .i64 0, .int .i64 0, .int .i64 0]) ?_ 0 _ rfl; (with_reducible repeat (first | refine blk_drewN ?_ _ | refine blk_drew ?_ | refine blk_alloc ?_ _)); exact BK106.out) hb); have n5_ := Aside0.mk (below_step (by repeat (first | (with_reducible first | exact HB.out | apply below_alloc | apply pw_below_drewN | apply below_drew1 | refine below_set ?_ GE101.out | refine below_set ?_ GE102.out | refine below_set ?_ GE104.out | refine below_set ?_ GE106.out) | exact HB.out)) hb); clear BK101; clear BK102; clear BK104; clear BK106; clear HB; have HO109 := n0_; have BK101 := n1_; have BK102 := n2_; have BK104 := n3_; have BK106 := n4_; have HB := n5_; clear n0_ n1_ n2_ n3_ n4_ n5_; clear hb ho33; have hcz34_0 : w32.cell? ⟨gb106, 0, none⟩ = some (.int .i64 ((rd_T42 l1_2 x11_1).f0)) := (blk_cell BK106.out 0).trans rfl; have hcz34_1 : w32.cell? ⟨gb106, 1, none⟩ = some (.int .i64 ((rd_T42 l1_2 x11_1).f1)) := (blk_cell BK106.out 1).trans rfl; have hcz34_2 : w32.cell? ⟨gb106, 2, none⟩ = some (.int .i64 ((rd_T42 l1_2 x11_1).f2)) := (blk_cell BK106.out 2).trans rfl; have hfz34_0 := blk_frozen BK106.out 0; have hfz34_1 := blk_frozen BK106.out 1; have hfz34_2 := blk_frozen BK106.out 2) | ((with_reducible refine gate_dst (N := 42) rfl ?_); refine Kd.R_lit (Kd.int .i64) _ 3 ?hg (N := 42) ?hd (xs := ([(rd_T42 l1_2 x11_1).f0, (rd_T42 l1_2 x11_1).f1, (rd_T42 l1_2 x11_1).f2] : List Int)) (inner := [.int .i64 ((rd_T42 l1_2 x11_1).f0), .int .i64 ((rd_T42 l1_2 x11_1).f1), .int .i64 ((rd_T42 l1_2 x11_1).f2)]) (ok := fun _ => True) (okp := fun _ => True) ?hr ?hp (fun _ hk => hk) trivial (Below.refl _ _) (Nat.le_refl _) (by simp) ?_; (case hd => rfl); (case hg => rfl); (case hr => first | (go_simp; done) | (go_simp; rfl)); (case hp => exact (Reps.one (show Kd.M (Kd.int .i64) _ _ _ ((rd_T42 l1_2 x11_1).f0) [.int .i64 ((rd_T42 l1_2 x11_1).f0)] from rfl) (Reps.one (show Kd.M (Kd.int .i64) _ _ _ ((rd_T42 l1_2 x11_1).f1) [.int .i64 ((rd_T42 l1_2 x11_1).f1)] from rfl) (Reps.one (show Kd.M (Kd.int .i64) _ _ _ ((rd_T42 l1_2 x11_1).f2) [.int .i64 ((rd_T42 l1_2 x11_1).f2)] from rfl) (Reps.none _ _))))); intro v111 w35 ho36 hb hg_ hnew_; clear hg_ hnew_; (first | rw [← Ny110.out] at ho36 | (simp only [Int.reduceToNat] at ho36; rw [← Ny110.out] at ho36)); have n0_ := Aside0.mk (Kd.R_elder' (by (with_reducible repeat (first | apply Kd.R_alloc | apply Kd.R_drewN | apply Kd.R_drew)); exact HO109.out) (Kd.R_base ho36) hb); have n1_ := Aside0.mk (Kd.R_lower (Kd.R_new' ho36 (Kd.R_lt (by (with_reducible repeat (first | apply Kd.R_alloc | apply Kd.R_drewN | apply Kd.R_drew)); exact HO109.out))) (below_size (by repeat (first | (with_reducible first | exact HB.out | apply below_alloc | apply pw_below_drewN | apply below_drew1 | refine below_set ?_ GE101.out | refine below_set ?_ GE102.out | refine below_set ?_ GE104.out | refine below_set ?_ GE106.out) | exact HB.out)))); have n2_ := Aside0.mk (blk_below (g := gb101) (o := .cells #[.int .i64 a0_0, .int .i64 a0_1, .slice (some ad103) l0_2.length c0_2] 29 (0, 0)) (by (with_reducible repeat (first | refine blk_drewN ?_ _ | refine blk_drew ?_ | refine blk_alloc ?_ _)); exact BK101.out) hb); have n3_ := Aside0.mk (blk_below (g := gb102) (o := .cells #[.int .i64 a1_0, .int .i64 a1_1, .slice (some ad105) l1_2.length c1_2] 29 (0, 0)) (by (with_reducible repeat (first | refine blk_drewN ?_ _ | refine blk_drew ?_ | refine blk_alloc ?_ _)); exact BK102.out) hb); have n4_ := Aside0.mk (blk_below (g := gb104) (o := .cells #[.int .i64 ((rd_T42 l0_2 x11_1).f0), .int .i64 ((rd_T42 l0_2 x11_1).f1), .int .i64 ((rd_T42 l0_2 x11_1).f2)] 42 (0, 0)) (by (with_reducible repeat (first | refine blk_drewN ?_ _ | refine blk_drew ?_ | refine blk_alloc ?_ _)); exact BK104.out) hb); have n5_ := Aside0.mk (blk_below (g := gb106) (o := .cells #[.int .i64 ((rd_T42 l1_2 x11_1).f0), .int .i64 ((rd_T42 l1_2 x11_1).f1), .int .i64 ((rd_T42 l1_2 x11_1).f2)] 42 (0, 0)) (by (with_reducible repeat (first | refine blk_drewN ?_ _ | refine blk_drew ?_ | refine blk_alloc ?_ _)); exact BK106.out) hb); have n6_ := Aside0.mk (below_step (by repeat (first | (with_reducible first | exact HB.out | apply below_alloc | apply pw_below_drewN | apply below_drew1 | refine below_set ?_ GE101.out | refine below_set ?_ GE102.out | refine below_set ?_ GE104.out | refine below_set ?_ GE106.out) | exact HB.out)) hb); clear HO109; clear BK101; clear BK102; clear BK104; clear BK106; clear HB; have HO109 := n0_; have HO112 := n1_; have BK101 := n2_; have BK102 := n3_; have BK104 := n4_; have BK106 := n5_; have HB := n6_; clear n0_ n1_ n2_ n3_ n4_ n5_ n6_; clear hb ho36; obtain ⟨Ao37, co37, eo37⟩ := Kd.R_slice HO109.out; subst eo37; obtain ⟨Ao38, co38, eo38⟩ := Kd.R_slice HO112.out; subst eo38) | ((with_reducible refine gate_callee (f := 29) rfl ?_); refine goesL_ (some 43) rfl rfl Try.func29 (by kernel_rfl) rfl #[.slice Ao37 y107.length co37, .slice Ao38 y110.length co38] rfl (by (try simp only [List.map_toArray, List.map_cons, List.map_nil]); first | done | rfl | (simp only [List.length_drop, List.length_take]; rfl)) ?_; (with_reducible refine (spec_cuBefore.calls k1 _ _ y107 _ _ y110 t113 _ ?side1 ?side2 ?side3 ?side4 A19.out).mono ?_); (case side1 => repeat (first | exact (Kd.R_reads' HO109.out).2.2 | (with_reducible refine Kd.C_alloc ?_ _) | (with_reducible refine Kd.C_drewN ?_ _) | (with_reducible refine Kd.C_drew ?_))); (case side2 => exact (Kd.R_reads' HO109.out).2.1); (case side3 => repeat (first | exact (Kd.R_reads' HO112.out).2.2 | (with_reducible refine Kd.C_alloc ?_ _) | (with_reducible refine Kd.C_drewN ?_ _) | (with_reducible refine Kd.C_drew ?_))); (case side4 => exact (Kd.R_reads' HO112.out).2.1); rintro e w' ⟨rfl, ⟨nd, rfl⟩⟩; refine ⟨_, rfl, ?_⟩))
                  go_ret
                  exact ⟨by first | rfl | (simp [errW_none, errW_some] <;> rfl) | (simp [*, errW_none, errW_some] <;> rfl), by repeat (first | (with_reducible first | exact HB.out | apply below_alloc | apply pw_below_drewN | apply below_drew1 | refine below_set ?_ GE101.out | refine below_set ?_ GE102.out | refine below_set ?_ GE104.out | refine below_set ?_ GE106.out) | exact HB.out)⟩
                · rw [if_neg c18] at H
                  have c18b0 : (!(((rd_T42 l0_2 x11_1).f0) == ((rd_T42 l1_2 x11_1).f0)) || (!(((rd_T42 l0_2 x11_1).f1) == ((rd_T42 l1_2 x11_1).f1)) || (!(((rd_T42 l0_2 x11_1).f2) == ((rd_T42 l1_2 x11_1).f2))))) = false := by simpa using c18
                  clear c18
                  have H' := Aside0.mk H
                  clear H
                  have p103 : 0 ≤ (x11_1 : Int) := of_decide_eq_true (by first | (with_reducible assumption) | assumption)
                  have q103 : x11_1 < (l0_2.length : Int) := of_decide_eq_true (by first | (with_reducible assumption) | assumption)
                  obtain ⟨ad103, e103, hx103_0, hx103_1, hx103_2⟩ := at_T42 HR0_2.out x11_1 p103 q103
                  cases e103
                  replace hx103_0 := (HB.out.cell (World.block_lt_of_cell? w _ hx103_0)).trans hx103_0
                  replace hx103_1 := (HB.out.cell (World.block_lt_of_cell? w _ hx103_1)).trans hx103_1
                  replace hx103_2 := (HB.out.cell (World.block_lt_of_cell? w _ hx103_2)).trans hx103_2
                  replace p103 := eq_true p103
                  replace q103 := eq_true q103
                  go_wp2_with (first | ((with_reducible refine gate_dst (N := 6) rfl ?_); refine box_event ?hg (N := 6) ?hd (cs := #[.int .i64 0, .int .i64 0, .int .i64 0]) (t := 42) ?hr ?_; (case hd => rfl); (case hg => rfl); (case hr => first | (go_simp; done) | (go_simp; rfl)); intro gb104 hg w39 hbox hb; have n0_ := Aside0.mk (blk_below (g := gb101) (o := .cells #[.int .i64 a0_0, .int .i64 a0_1, .slice (some ad103) l0_2.length c0_2] 29 (0, 0)) (by (with_reducible repeat (first | refine blk_drewN ?_ _ | refine blk_drew ?_ | refine blk_alloc ?_ _)); exact BK101.out) hb); have n1_ := Aside0.mk (blk_below (g := gb102) (o := .cells #[.int .i64 a1_0, .int .i64 a1_1, .slice A1_2 l1_2.length c1_2] 29 (0, 0)) (by (with_reducible repeat (first | refine blk_drewN ?_ _ | refine blk_drew ?_ | refine blk_alloc ?_ _)); exact BK102.out) hb); have n2_ := Aside0.mk (below_step (by repeat (first | (with_reducible first | exact HB.out | apply below_alloc | apply pw_below_drewN | apply below_drew1 | refine below_set ?_ GE101.out | refine below_set ?_ GE102.out) | exact HB.out)) hb); have n3_ := Aside0.mk (hbox); have n4_ := Aside0.mk ((by rw [hg]; exact (below_size (by repeat (first | (with_reducible first | exact HB.out | apply below_alloc | apply pw_below_drewN | apply below_drew1 | refine below_set ?_ GE101.out | refine below_set ?_ GE102.out) | exact HB.out))) : w.heap.size ≤ gb104)); have n5_ := Aside0.mk ((by rw [hg]; exact (below_size (by repeat (first | (with_reducible first | exact HB.out | apply below_alloc | apply pw_below_drewN | apply below_drew1 | refine below_set ?_ GE101.out | refine below_set ?_ GE102.out) | exact HB.out))) : w.heap.size ≤ gb104)); have n6_ := Aside0.mk ((by rw [hg]; exact Nat.ne_of_lt (blk_lt (g := gb101) (o := .cells #[.int .i64 a0_0, .int .i64 a0_1, .slice (some ad103) l0_2.length c0_2] 29 (0, 0)) (by (with_reducible repeat (first | refine blk_drewN ?_ _ | refine blk_drew ?_ | refine blk_alloc ?_ _)); exact BK101.out)) : gb101 ≠ gb104)); have n7_ := Aside0.mk ((by rw [hg]; exact Nat.ne_of_gt (blk_lt (g := gb101) (o := .cells #[.int .i64 a0_0, .int .i64 a0_1, .slice (some ad103) l0_2.length c0_2] 29 (0, 0)) (by (with_reducible repeat (first | refine blk_drewN ?_ _ | refine blk_drew ?_ | refine blk_alloc ?_ _)); exact BK101.out)) : gb104 ≠ gb101)); have n8_ := Aside0.mk ((by rw [hg]; exact Nat.ne_of_lt (blk_lt (g := gb102) (o := .cells #[.int .i64 a1_0, .int .i64 a1_1, .slice A1_2 l1_2.length c1_2] 29 (0, 0)) (by (with_reducible repeat (first | refine blk_drewN ?_ _ | refine blk_drew ?_ | refine blk_alloc ?_ _)); exact BK102.out)) : gb102 ≠ gb104)); have n9_ := Aside0.mk ((by rw [hg]; exact Nat.ne_of_gt (blk_lt (g := gb102) (o := .cells #[.int .i64 a1_0, .int .i64 a1_1, .slice A1_2 l1_2.length c1_2] 29 (0, 0)) (by (with_reducible repeat (first | refine blk_drewN ?_ _ | refine blk_drew ?_ | refine blk_alloc ?_ _)); exact BK102.out)) : gb104 ≠ gb102)); clear BK101; clear BK102; clear HB; have BK101 := n0_; have BK102 := n1_; have HB := n2_; have BK104 := n3_; have GW104 := n4_; have GE104 := n5_; have NB101_104 := n6_; have NB104_101 := n7_; have NB102_104 := n8_; have NB104_102 := n9_; clear n0_ n1_ n2_ n3_ n4_ n5_ n6_ n7_ n8_ n9_; clear hb hbox hg; have hnb40 := NB104_101.out; have hnc40 := NB101_104.out; have hnb41 := NB104_102.out; have hnc41 := NB102_104.out; have hcz42_0 : w39.cell? ⟨gb104, 0, none⟩ = some (.int .i64 0) := (blk_cell BK104.out 0).trans rfl; have hcz42_1 : w39.cell? ⟨gb104, 1, none⟩ = some (.int .i64 0) := (blk_cell BK104.out 1).trans rfl; have hcz42_2 : w39.cell? ⟨gb104, 2, none⟩ = some (.int .i64 0) := (blk_cell BK104.out 2).trans rfl; have hfz42_0 := blk_frozen BK104.out 0; have hfz42_1 := blk_frozen BK104.out 1; have hfz42_2 := blk_frozen BK104.out 2; have hnb43 := NB102_101.out; have hnc43 := NB101_102.out; have hcz44_0 : w39.cell? ⟨gb102, 0, none⟩ = some (.int .i64 a1_0) := (blk_cell BK102.out 0).trans rfl; have hcz44_1 : w39.cell? ⟨gb102, 1, none⟩ = some (.int .i64 a1_1) := (blk_cell BK102.out 1).trans rfl; have hcz44_2 : w39.cell? ⟨gb102, 2, none⟩ = some (.slice A1_2 l1_2.length c1_2) := (blk_cell BK102.out 2).trans rfl; have hfz44_0 := blk_frozen BK102.out 0; have hfz44_1 := blk_frozen BK102.out 1; have hfz44_2 := blk_frozen BK102.out 2; have p105 : 0 ≤ (x11_1 : Int) := of_decide_eq_true (by first | (with_reducible assumption) | assumption); have q105 : x11_1 < (l1_2.length : Int) := of_decide_eq_true (by first | (with_reducible assumption) | assumption); obtain ⟨ad105, e105, hx105_0, hx105_1, hx105_2⟩ := at_T42 HR1_2.out x11_1 p105 q105; cases e105; have hn105_0 : ad105.block ≠ gb104 := Nat.ne_of_lt (Nat.lt_of_lt_of_le (by have := World.block_lt_of_cell? _ _ hx105_0; first | rwa [add_block] at this | exact this) GW104.out); have hn105_1 : ad105.block ≠ gb104 := Nat.ne_of_lt (Nat.lt_of_lt_of_le (by have := World.block_lt_of_cell? _ _ hx105_0; first | rwa [add_block] at this | exact this) GW104.out); have hn105_2 : ad105.block ≠ gb104 := Nat.ne_of_lt (Nat.lt_of_lt_of_le (by have := World.block_lt_of_cell? _ _ hx105_0; first | rwa [add_block] at this | exact this) GW104.out); replace hx105_0 := (HB.out.cell (World.block_lt_of_cell? w _ hx105_0)).trans hx105_0; replace hx105_1 := (HB.out.cell (World.block_lt_of_cell? w _ hx105_1)).trans hx105_1; replace hx105_2 := (HB.out.cell (World.block_lt_of_cell? w _ hx105_2)).trans hx105_2; replace hx105_0 := (cell_far (p := ⟨gb104, 0, none⟩) (by first | (rw [add_block]; exact hn105_0) | (show (Addr.add _ _).block ≠ _; rw [add_block]; exact hn105_0) | exact hn105_0) (.int .i64 ((rd_T42 l0_2 x11_1).f0))).trans hx105_0; replace hx105_1 := (cell_far (p := ⟨gb104, 0, none⟩) (by first | (rw [add_block]; exact hn105_0) | (show (Addr.add _ _).block ≠ _; rw [add_block]; exact hn105_0) | exact hn105_0) (.int .i64 ((rd_T42 l0_2 x11_1).f0))).trans hx105_1; replace hx105_2 := (cell_far (p := ⟨gb104, 0, none⟩) (by first | (rw [add_block]; exact hn105_0) | (show (Addr.add _ _).block ≠ _; rw [add_block]; exact hn105_0) | exact hn105_0) (.int .i64 ((rd_T42 l0_2 x11_1).f0))).trans hx105_2; replace hx105_0 := (cell_far (p := ⟨gb104, 1, none⟩) (by first | (rw [add_block]; exact hn105_1) | (show (Addr.add _ _).block ≠ _; rw [add_block]; exact hn105_1) | exact hn105_1) (.int .i64 ((rd_T42 l0_2 x11_1).f1))).trans hx105_0; replace hx105_1 := (cell_far (p := ⟨gb104, 1, none⟩) (by first | (rw [add_block]; exact hn105_1) | (show (Addr.add _ _).block ≠ _; rw [add_block]; exact hn105_1) | exact hn105_1) (.int .i64 ((rd_T42 l0_2 x11_1).f1))).trans hx105_1; replace hx105_2 := (cell_far (p := ⟨gb104, 1, none⟩) (by first | (rw [add_block]; exact hn105_1) | (show (Addr.add _ _).block ≠ _; rw [add_block]; exact hn105_1) | exact hn105_1) (.int .i64 ((rd_T42 l0_2 x11_1).f1))).trans hx105_2; replace hx105_0 := (cell_far (p := ⟨gb104, 2, none⟩) (by first | (rw [add_block]; exact hn105_2) | (show (Addr.add _ _).block ≠ _; rw [add_block]; exact hn105_2) | exact hn105_2) (.int .i64 ((rd_T42 l0_2 x11_1).f2))).trans hx105_0; replace hx105_1 := (cell_far (p := ⟨gb104, 2, none⟩) (by first | (rw [add_block]; exact hn105_2) | (show (Addr.add _ _).block ≠ _; rw [add_block]; exact hn105_2) | exact hn105_2) (.int .i64 ((rd_T42 l0_2 x11_1).f2))).trans hx105_1; replace hx105_2 := (cell_far (p := ⟨gb104, 2, none⟩) (by first | (rw [add_block]; exact hn105_2) | (show (Addr.add _ _).block ≠ _; rw [add_block]; exact hn105_2) | exact hn105_2) (.int .i64 ((rd_T42 l0_2 x11_1).f2))).trans hx105_2; clear hn105_0; clear hn105_1; clear hn105_2; replace p105 := eq_true p105; replace q105 := eq_true q105) | ((with_reducible refine gate_dst (N := 7) rfl ?_); refine box_event ?hg (N := 7) ?hd (cs := #[.int .i64 0, .int .i64 0, .int .i64 0]) (t := 42) ?hr ?_; (case hd => rfl); (case hg => rfl); (case hr => first | (go_simp; done) | (go_simp; rfl)); intro gb106 hg w45 hbox hb; have n0_ := Aside0.mk (blk_below (g := gb101) (o := .cells #[.int .i64 a0_0, .int .i64 a0_1, .slice (some ad103) l0_2.length c0_2] 29 (0, 0)) (by (with_reducible repeat (first | refine blk_drewN ?_ _ | refine blk_drew ?_ | refine blk_alloc ?_ _)); refine blk_far ?_ NB101_104.out _; (with_reducible repeat (first | refine blk_drewN ?_ _ | refine blk_drew ?_ | refine blk_alloc ?_ _)); refine blk_far ?_ NB101_104.out _; (with_reducible repeat (first | refine blk_drewN ?_ _ | refine blk_drew ?_ | refine blk_alloc ?_ _)); refine blk_far ?_ NB101_104.out _; (with_reducible repeat (first | refine blk_drewN ?_ _ | refine blk_drew ?_ | refine blk_alloc ?_ _)); exact BK101.out) hb); have n1_ := Aside0.mk (blk_below (g := gb102) (o := .cells #[.int .i64 a1_0, .int .i64 a1_1, .slice (some ad105) l1_2.length c1_2] 29 (0, 0)) (by (with_reducible repeat (first | refine blk_drewN ?_ _ | refine blk_drew ?_ | refine blk_alloc ?_ _)); refine blk_far ?_ NB102_104.out _; (with_reducible repeat (first | refine blk_drewN ?_ _ | refine blk_drew ?_ | refine blk_alloc ?_ _)); refine blk_far ?_ NB102_104.out _; (with_reducible repeat (first | refine blk_drewN ?_ _ | refine blk_drew ?_ | refine blk_alloc ?_ _)); refine blk_far ?_ NB102_104.out _; (with_reducible repeat (first | refine blk_drewN ?_ _ | refine blk_drew ?_ | refine blk_alloc ?_ _)); exact BK102.out) hb); have n2_ := Aside0.mk (blk_below (g := gb104) (o := .cells #[.int .i64 ((rd_T42 l0_2 x11_1).f0), .int .i64 ((rd_T42 l0_2 x11_1).f1), .int .i64 ((rd_T42 l0_2 x11_1).f2)] 42 (0, 0)) (by (with_reducible repeat (first | refine blk_drewN ?_ _ | refine blk_drew ?_ | refine blk_alloc ?_ _)); refine blk_put (cs := #[.int .i64 ((rd_T42 l0_2 x11_1).f0), .int .i64 ((rd_T42 l0_2 x11_1).f1), .int .i64 0]) ?_ 2 _ rfl; (with_reducible repeat (first | refine blk_drewN ?_ _ | refine blk_drew ?_ | refine blk_alloc ?_ _)); refine blk_put (cs := #[.int .i64 ((rd_T42 l0_2 x11_1).f0), .int .i64 0, .int .i64 0]) ?_ 1 _ rfl; (with_reducible repeat (first | refine blk_drewN ?_ _ | refine blk_drew ?_ | refine blk_alloc ?_ _)); refine blk_put (cs := #[.int .i64 0, .int .i64 0, .int .i64 0]) ?_ 0 _ rfl; (with_reducible repeat (first | refine blk_drewN ?_ _ | refine blk_drew ?_ | refine blk_alloc ?_ _)); exact BK104.out) hb); have n3_ := Aside0.mk (below_step (by repeat (first | (with_reducible first | exact HB.out | apply below_alloc | apply pw_below_drewN | apply below_drew1 | refine below_set ?_ GE101.out | refine below_set ?_ GE102.out | refine below_set ?_ GE104.out) | exact HB.out)) hb); have n4_ := Aside0.mk (hbox); have n5_ := Aside0.mk ((by rw [hg]; exact (below_size (by repeat (first | (with_reducible first | exact HB.out | apply below_alloc | apply pw_below_drewN | apply below_drew1 | refine below_set ?_ GE101.out | refine below_set ?_ GE102.out | refine below_set ?_ GE104.out) | exact HB.out))) : w.heap.size ≤ gb106)); have n6_ := Aside0.mk ((by rw [hg]; exact (below_size (by repeat (first | (with_reducible first | exact HB.out | apply below_alloc | apply pw_below_drewN | apply below_drew1 | refine below_set ?_ GE101.out | refine below_set ?_ GE102.out | refine below_set ?_ GE104.out) | exact HB.out))) : w.heap.size ≤ gb106)); have n7_ := Aside0.mk ((by rw [hg]; exact Nat.ne_of_lt (blk_lt (g := gb101) (o := .cells #[.int .i64 a0_0, .int .i64 a0_1, .slice (some ad103) l0_2.length c0_2] 29 (0, 0)) (by (with_reducible repeat (first | refine blk_drewN ?_ _ | refine blk_drew ?_ | refine blk_alloc ?_ _)); refine blk_far ?_ NB101_104.out _; (with_reducible repeat (first | refine blk_drewN ?_ _ | refine blk_drew ?_ | refine blk_alloc ?_ _)); refine blk_far ?_ NB101_104.out _; (with_reducible repeat (first | refine blk_drewN ?_ _ | refine blk_drew ?_ | refine blk_alloc ?_ _)); refine blk_far ?_ NB101_104.out _; (with_reducible repeat (first | refine blk_drewN ?_ _ | refine blk_drew ?_ | refine blk_alloc ?_ _)); exact BK101.out)) : gb101 ≠ gb106)); have n8_ := Aside0.mk ((by rw [hg]; exact Nat.ne_of_gt (blk_lt (g := gb101) (o := .cells #[.int .i64 a0_0, .int .i64 a0_1, .slice (some ad103) l0_2.length c0_2] 29 (0, 0)) (by (with_reducible repeat (first | refine blk_drewN ?_ _ | refine blk_drew ?_ | refine blk_alloc ?_ _)); refine blk_far ?_ NB101_104.out _; (with_reducible repeat (first | refine blk_drewN ?_ _ | refine blk_drew ?_ | refine blk_alloc ?_ _)); refine blk_far ?_ NB101_104.out _; (with_reducible repeat (first | refine blk_drewN ?_ _ | refine blk_drew ?_ | refine blk_alloc ?_ _)); refine blk_far ?_ NB101_104.out _; (with_reducible repeat (first | refine blk_drewN ?_ _ | refine blk_drew ?_ | refine blk_alloc ?_ _)); exact BK101.out)) : gb106 ≠ gb101)); have n9_ := Aside0.mk ((by rw [hg]; exact Nat.ne_of_lt (blk_lt (g := gb102) (o := .cells #[.int .i64 a1_0, .int .i64 a1_1, .slice (some ad105) l1_2.length c1_2] 29 (0, 0)) (by (with_reducible repeat (first | refine blk_drewN ?_ _ | refine blk_drew ?_ | refine blk_alloc ?_ _)); refine blk_far ?_ NB102_104.out _; (with_reducible repeat (first | refine blk_drewN ?_ _ | refine blk_drew ?_ | refine blk_alloc ?_ _)); refine blk_far ?_ NB102_104.out _; (with_reducible repeat (first | refine blk_drewN ?_ _ | refine blk_drew ?_ | refine blk_alloc ?_ _)); refine blk_far ?_ NB102_104.out _; (with_reducible repeat (first | refine blk_drewN ?_ _ | refine blk_drew ?_ | refine blk_alloc ?_ _)); exact BK102.out)) : gb102 ≠ gb106)); have n10_ := Aside0.mk ((by rw [hg]; exact Nat.ne_of_gt (blk_lt (g := gb102) (o := .cells #[.int .i64 a1_0, .int .i64 a1_1, .slice (some ad105) l1_2.length c1_2] 29 (0, 0)) (by (with_reducible repeat (first | refine blk_drewN ?_ _ | refine blk_drew ?_ | refine blk_alloc ?_ _)); refine blk_far ?_ NB102_104.out _; (with_reducible repeat (first | refine blk_drewN ?_ _ | refine blk_drew ?_ | refine blk_alloc ?_ _)); refine blk_far ?_ NB102_104.out _; (with_reducible repeat (first | refine blk_drewN ?_ _ | refine blk_drew ?_ | refine blk_alloc ?_ _)); refine blk_far ?_ NB102_104.out _; (with_reducible repeat (first | refine blk_drewN ?_ _ | refine blk_drew ?_ | refine blk_alloc ?_ _)); exact BK102.out)) : gb106 ≠ gb102)); have n11_ := Aside0.mk ((by rw [hg]; exact Nat.ne_of_lt (blk_lt (g := gb104) (o := .cells #[.int .i64 ((rd_T42 l0_2 x11_1).f0), .int .i64 ((rd_T42 l0_2 x11_1).f1), .int .i64 ((rd_T42 l0_2 x11_1).f2)] 42 (0, 0)) (by (with_reducible repeat (first | refine blk_drewN ?_ _ | refine blk_drew ?_ | refine blk_alloc ?_ _)); refine blk_put (cs := #[.int .i64 ((rd_T42 l0_2 x11_1).f0), .int .i64 ((rd_T42 l0_2 x11_1).f1), .int .i64 0]) ?_ 2 _ rfl; (with_reducible repeat (first | refine blk_drewN ?_ _ | refine blk_drew ?_ | refine blk_alloc ?_ _)); refine blk_put (cs := #[.int .i64 ((rd_T42 l0_2 x11_1).f0), .int .i64 0, .int .i64 0]) ?_ 1 _ rfl; (with_reducible repeat (first | refine blk_drewN ?_ _ | refine blk_drew ?_ | refine blk_alloc ?_ _)); refine blk_put (cs := #[.int .i64 0, .int .i64 0, .int .i64 0]) ?_ 0 _ rfl; (with_reducible repeat (first | refine blk_drewN ?_ _ | refine blk_drew ?_ | refine blk_alloc ?_ _)); exact BK104.out)) : gb104 ≠ gb106)); have n12_ := Aside0.mk ((by rw [hg]; exact Nat.ne_of_gt (blk_lt (g := gb104) (o := .cells #[.int .i64 ((rd_T42 l0_2 x11_1).f0), .int .i64 ((rd_T42 l0_2 x11_1).f1), .int .i64 ((rd_T42 l0_2 x11_1).f2)] 42 (0, 0)) (by (with_reducible repeat (first | refine blk_drewN ?_ _ | refine blk_drew ?_ | refine blk_alloc ?_ _)); refine blk_put (cs := #[.int .i64 ((rd_T42 l0_2 x11_1).f0), .int .i64 ((rd_T42 l0_2 x11_1).f1), .int .i64 0]) ?_ 2 _ rfl; (with_reducible repeat (first | refine blk_drewN ?_ _ | refine blk_drew ?_ | refine blk_alloc ?_ _)); refine blk_put (cs := #[.int .i64 ((rd_T42 l0_2 x11_1).f0), .int .i64 0, .int .i64 0]) ?_ 1 _ rfl; (with_reducible repeat (first | refine blk_drewN ?_ _ | refine blk_drew ?_ | refine blk_alloc ?_ _)); refine blk_put (cs := #[.int .i64 0, .int .i64 0, .int .i64 0]) ?_ 0 _ rfl; (with_reducible repeat (first | refine blk_drewN ?_ _ | refine blk_drew ?_ | refine blk_alloc ?_ _)); exact BK104.out)) : gb106 ≠ gb104)); clear BK101; clear BK102; clear BK104; clear HB; have BK101 := n0_; have BK102 := n1_; have BK104 := n2_; have HB := n3_; have BK106 := n4_; have GW106 := n5_; have GE106 := n6_; have NB101_106 := n7_; have NB106_101 := n8_; have NB102_106 := n9_; have NB106_102 := n10_; have NB104_106 := n11_; have NB106_104 := n12_; clear n0_ n1_ n2_ n3_ n4_ n5_ n6_ n7_ n8_ n9_ n10_ n11_ n12_; clear hb hbox hg; have hnb46 := NB106_101.out; have hnc46 := NB101_106.out; have hnb47 := NB106_102.out; have hnc47 := NB102_106.out; have hnb48 := NB106_104.out; have hnc48 := NB104_106.out; have hcz49_0 : w45.cell? ⟨gb106, 0, none⟩ = some (.int .i64 0) := (blk_cell BK106.out 0).trans rfl; have hcz49_1 : w45.cell? ⟨gb106, 1, none⟩ = some (.int .i64 0) := (blk_cell BK106.out 1).trans rfl; have hcz49_2 : w45.cell? ⟨gb106, 2, none⟩ = some (.int .i64 0) := (blk_cell BK106.out 2).trans rfl; have hfz49_0 := blk_frozen BK106.out 0; have hfz49_1 := blk_frozen BK106.out 1; have hfz49_2 := blk_frozen BK106.out 2; have hcz50_0 : w45.cell? ⟨gb104, 0, none⟩ = some (.int .i64 ((rd_T42 l0_2 x11_1).f0)) := (blk_cell BK104.out 0).trans rfl; have hcz50_1 : w45.cell? ⟨gb104, 1, none⟩ = some (.int .i64 ((rd_T42 l0_2 x11_1).f1)) := (blk_cell BK104.out 1).trans rfl; have hcz50_2 : w45.cell? ⟨gb104, 2, none⟩ = some (.int .i64 ((rd_T42 l0_2 x11_1).f2)) := (blk_cell BK104.out 2).trans rfl; have hfz50_0 := blk_frozen BK104.out 0; have hfz50_1 := blk_frozen BK104.out 1; have hfz50_2 := blk_frozen BK104.out 2))
                  go_roundg k1
                  case measure => have := HK1.out; omega
                  case rel => exact ⟨(wrap64 (x11_1 + 1)), (by first | rfl | (simp; done) | (simp [*]; done)), H', ⟨by have := HK1.out; omega⟩, ⟨by (with_reducible repeat (first | refine blk_drewN ?_ _ | refine blk_drew ?_ | refine blk_alloc ?_ _)); refine blk_far ?_ NB101_106.out _; (with_reducible repeat (first | refine blk_drewN ?_ _ | refine blk_drew ?_ | refine blk_alloc ?_ _)); refine blk_far ?_ NB101_106.out _; (with_reducible repeat (first | refine blk_drewN ?_ _ | refine blk_drew ?_ | refine blk_alloc ?_ _)); refine blk_far ?_ NB101_106.out _; (with_reducible repeat (first | refine blk_drewN ?_ _ | refine blk_drew ?_ | refine blk_alloc ?_ _)); exact BK101.out⟩, ⟨by (with_reducible repeat (first | refine blk_drewN ?_ _ | refine blk_drew ?_ | refine blk_alloc ?_ _)); refine blk_far ?_ NB102_106.out _; (with_reducible repeat (first | refine blk_drewN ?_ _ | refine blk_drew ?_ | refine blk_alloc ?_ _)); refine blk_far ?_ NB102_106.out _; (with_reducible repeat (first | refine blk_drewN ?_ _ | refine blk_drew ?_ | refine blk_alloc ?_ _)); refine blk_far ?_ NB102_106.out _; (with_reducible repeat (first | refine blk_drewN ?_ _ | refine blk_drew ?_ | refine blk_alloc ?_ _)); exact BK102.out⟩, ⟨by repeat (first | (with_reducible first | exact HB.out | apply below_alloc | apply pw_below_drewN | apply below_drew1 | refine below_set ?_ GE101.out | refine below_set ?_ GE102.out | refine below_set ?_ GE104.out | refine below_set ?_ GE106.out) | exact HB.out)⟩⟩
              · rw [if_neg c17] at H
                exact absurd H (by simp)
          · rw [if_neg c9] at H
            exact absurd H (by simp)
        · rw [if_neg c8] at H
          exact absurd H (by simp)
      · rw [if_neg c7] at H
        have c7b0 : decide (x11_1 < (l0_2.length : Int)) = false := decide_eq_false c7
        clear c7
        obtain rfl := Option.some.inj H
        have hnb51 := NB101_102.out
        have hnc51 := NB102_101.out
        have hcz52_0 : wr.cell? ⟨gb101, 0, none⟩ = some (.int .i64 a0_0) := (blk_cell BK101.out 0).trans rfl
        have hcz52_1 : wr.cell? ⟨gb101, 1, none⟩ = some (.int .i64 a0_1) := (blk_cell BK101.out 1).trans rfl
        have hcz52_2 : wr.cell? ⟨gb101, 2, none⟩ = some (.slice A0_2 l0_2.length c0_2) := (blk_cell BK101.out 2).trans rfl
        have hfz52_0 := blk_frozen BK101.out 0
        have hfz52_1 := blk_frozen BK101.out 1
        have hfz52_2 := blk_frozen BK101.out 2
        have hcz53_0 : wr.cell? ⟨gb102, 0, none⟩ = some (.int .i64 a1_0) := (blk_cell BK102.out 0).trans rfl
        have hcz53_1 : wr.cell? ⟨gb102, 1, none⟩ = some (.int .i64 a1_1) := (blk_cell BK102.out 1).trans rfl
        have hcz53_2 : wr.cell? ⟨gb102, 2, none⟩ = some (.slice A1_2 l1_2.length c1_2) := (blk_cell BK102.out 2).trans rfl
        have hfz53_0 := blk_frozen BK102.out 0
        have hfz53_1 := blk_frozen BK102.out 1
        have hfz53_2 := blk_frozen BK102.out 2
        go_wp2
        go_ret
        exact ⟨by first | rfl | (simp [errW_none, errW_some] <;> rfl) | (simp [*, errW_none, errW_some] <;> rfl), by repeat (first | (with_reducible first | exact HB.out | apply below_alloc | apply pw_below_drewN | apply below_drew1 | refine below_set ?_ GE101.out | refine below_set ?_ GE102.out) | exact HB.out)⟩
end Go.Proofs.Ythmcdiekgfgpdaa.P

namespace Go.Proofs.Ythmcdiekgfgpdaa.Pure
set_option linter.unusedVariables false
set_option linter.unusedSimpArgs false
open Go.RowKit Go.Proofs.Ythmcdiekgfgpdaa.P Go.Proofs.YthmcdiekgfgpdaaW.PrintWords Go.Proofs.YthmcdiekgfgpdaaW.PrintLast Go.Proofs.YthmcdiekgfgpdaaW.PrintMore Go.Proofs.Ythmcdiekgfgpdaa.Aid Go.Proofs.Ythmcdiekgfgpdaa.T
def lexI : List Int → List Int → Bool
  | [], [] => false
  | [], _ :: _ => true
  | _ :: _, [] => false
  | x :: a, y :: b => if x = y then lexI a b else decide (x < y)
theorem drop_rd (l : List Int) (i : Nat) (h : i < l.length) : l.drop i = rd l i :: l.drop (i + 1) := by
  rw [List.drop_eq_getElem_cons h]
  simp [rd, h]
theorem cuBefore_l (a b : List Int) (ha : a.length ≤ 1000000) (hb : b.length ≤ 1000000) : ∀ (d i : Nat), i + d = a.length → i ≤ b.length → Ev (fun k => spec_cuBefore.l0 k a b i) (lexI (a.drop i) (b.drop i))
  | 0, i, hd, hi => by
    refine Ev.step (fun _ => spec_cuBefore.l0.eq_2 ..) (ev_neg (by omega) (Ev.step (fun _ => spec_cuBefore.j1.eq_2 ..) (ev_neg (by simp) (ev_some ?_))))
    rw [List.drop_eq_nil_of_le (show a.length ≤ i by omega)]
    rcases Nat.lt_or_ge i b.length with h | h
    · rw [drop_rd b i h]; simp only [lexI]; exact decide_eq_true (by omega)
    · rw [List.drop_eq_nil_of_le h]; simp only [lexI]; exact decide_eq_false (by omega)
  | d + 1, i, hd, hi => by
    have ew : wrap64 ((i : Int) + 1) = ((i + 1 : Nat) : Int) := by rw [w64 (by omega) (by omega)]; omega
    rcases Nat.lt_or_ge i b.length with h | h
    · refine Ev.step (fun _ => spec_cuBefore.l0.eq_2 ..) (ev_pos (by omega) (Ev.step (fun _ => spec_cuBefore.j1.eq_2 ..) (ev_pos (by simpa using h) (ev_pos (by omega) (ev_pos (by omega) (ev_pos (by omega) ?_))))))
      rw [drop_rd a i (by omega), drop_rd b i h]
      simp only [lexI]
      by_cases c : rd a i = rd b i
      · rw [if_pos c]
        refine ev_pos c ?_
        rw [ew]
        exact cuBefore_l a b ha hb d (i + 1) (by omega) (by omega)
      · rw [if_neg c]
        exact ev_neg c (ev_some rfl)
    · refine Ev.step (fun _ => spec_cuBefore.l0.eq_2 ..) (ev_pos (by omega) (Ev.step (fun _ => spec_cuBefore.j1.eq_2 ..) (ev_neg (by simpa using h) (ev_some ?_))))
      rw [drop_rd a i (by omega), List.drop_eq_nil_of_le h]
      simp only [lexI]
      exact decide_eq_false (by omega)
theorem cuBefore_ev (a b : List Int) (ha : a.length ≤ 1000000) (hb : b.length ≤ 1000000) : Ev (fun k => spec_cuBefore.f k a b) (lexI a b) := by
  have h := cuBefore_l a b ha hb a.length 0 (by omega) (by omega)
  show Ev (fun k => spec_cuBefore.l0 k a b 0) (lexI a b)
  simpa using h
theorem lexI_sq (s q : Sq) (h : s ≠ q) : lexI [s.f0, s.f1, s.f2] [q.f0, q.f1, q.f2] = decide (Bef s q) := by
  simp only [lexI]
  by_cases c0 : s.f0 = q.f0
  · rw [if_pos c0]
    by_cases c1 : s.f1 = q.f1
    · rw [if_pos c1]
      by_cases c2 : s.f2 = q.f2
      · exact absurd (by cases s; cases q; simp_all) h
      · rw [if_neg c2]
        exact decide_eq_decide.2 ⟨fun e => .inr ⟨c0, .inr ⟨c1, e⟩⟩, fun e => by unfold Bef at e; omega⟩
    · rw [if_neg c1]
      exact decide_eq_decide.2 ⟨fun e => .inr ⟨c0, .inl e⟩, fun e => by unfold Bef at e; omega⟩
  · rw [if_neg c0]
    exact decide_eq_decide.2 ⟨fun e => .inl e, fun e => by unfold Bef at e; omega⟩
theorem drop_sq (l : List Sq) (i : Nat) (h : i < l.length) : l.drop i = rd_T42 l i :: l.drop (i + 1) := by
  rw [List.drop_eq_getElem_cons h]
  simp [rd_T42, h]
theorem sq_ne (s q : Sq) : (!(s.f0 == q.f0) || (!(s.f1 == q.f1) || !(s.f2 == q.f2))) = true ↔ s ≠ q := by
  cases s; cases q
  simp
  omega
theorem cuFirst_l (A B : List Sq) (a0 a1 b0 b1 : Int) (ha : A.length ≤ 1000000) (hb : B.length ≤ 1000000) : ∀ (d i : Nat), i + d = A.length → i ≤ B.length → Ev (fun k => spec_cuFirst.l0 k A (A.length : Int) i a0 a1 A b0 b1 B) (lexB (A.drop i) (B.drop i))
  | 0, i, hd, hi => by
    refine Ev.step (fun _ => spec_cuFirst.l0.eq_2 ..) (ev_neg (by omega) (ev_some ?_))
    rw [List.drop_eq_nil_of_le (show A.length ≤ i by omega)]
    rcases Nat.lt_or_ge i B.length with h | h
    · rw [drop_sq B i h]; simp only [lexB]; exact decide_eq_true (by omega)
    · rw [List.drop_eq_nil_of_le h]; simp only [lexB]; exact decide_eq_false (by omega)
  | d + 1, i, hd, hi => by
    have ew : wrap64 ((i : Int) + 1) = ((i + 1 : Nat) : Int) := by rw [w64 (by omega) (by omega)]; omega
    rcases Nat.lt_or_ge i B.length with h | h
    · refine Ev.step (fun _ => spec_cuFirst.l0.eq_2 ..) (ev_pos (by omega) (ev_pos (by omega) (ev_pos (by omega) (ev_neg (by omega) (ev_pos (by omega) ?_)))))
      rw [drop_sq A i (by omega), drop_sq B i h]
      simp only [lexB]
      by_cases c : rd_T42 A i = rd_T42 B i
      · rw [if_pos c]
        refine ev_neg (fun e => (sq_ne _ _).1 e c) ?_
        rw [ew]
        exact cuFirst_l A B a0 a1 b0 b1 ha hb d (i + 1) (by omega) (by omega)
      · rw [if_neg c, ← lexI_sq _ _ c]
        exact ev_pos ((sq_ne _ _).2 c) (ev_bind (cuBefore_ev _ _ (by simp) (by simp)) (ev_some rfl))
    · refine Ev.step (fun _ => spec_cuFirst.l0.eq_2 ..) (ev_pos (by omega) (ev_pos (by omega) (ev_pos (by omega) (ev_pos (by omega) (ev_some ?_)))))
      rw [drop_sq A i (by omega), List.drop_eq_nil_of_le h]
      simp only [lexB]
theorem cuFirst_ev (A B : List Sq) (a0 a1 b0 b1 : Int) (ha : A.length ≤ 1000000) (hb : B.length ≤ 1000000) : Ev (fun k => spec_cuFirst.f k a0 a1 A b0 b1 B) (lexB A B) := by
  have h := cuFirst_l A B a0 a1 b0 b1 ha hb A.length 0 (by omega) (by omega)
  show Ev (fun k => spec_cuFirst.l0 k A (A.length : Int) 0 a0 a1 A b0 b1 B) (lexB A B)
  simpa using h
end Go.Proofs.Ythmcdiekgfgpdaa.Pure

namespace Go.Proofs.YthmcdiekgfgpdaaW.PrintWords
open Go.RowKit
theorem nodup_at {idx : List Nat} (hn : idx.Nodup) {i j a : Nat} (hi : idx[i]? = some a) (hj : idx[j]? = some a) : i = j := by
  obtain ⟨l1, e1⟩ := List.getElem?_eq_some_iff.1 hi
  obtain ⟨l2, e2⟩ := List.getElem?_eq_some_iff.1 hj
  have h := List.pairwise_iff_getElem.1 hn
  rcases Nat.lt_trichotomy i j with c | c | c
  · exact absurd (e1.trans e2.symm) (h i j l1 l2 c)
  · exact c
  · exact absurd (e2.trans e1.symm) (h j i l2 l1 c)
theorem S_of_raw {α : Type} {d : Kd α} {e : Nat} {w : World} {base : Nat} {ok ok1 : Nat → Prop} {v : Value} {idx : List Nat} {g : Nat → List Value} {x : Nat → α} (f : Nat → Nat)
    (ho : (Kd.raw d.sz).R e w base ok1 v (idx.map g)) (hM : ∀ j, j ∈ idx → d.M w base (fun k => ok k ∧ f k = j) (x j) (g j)) (hn : idx.Nodup) (h1 : ∀ k, ok1 k → ok k) (hv : ∀ k, v.ownBlock = some k → ¬ (f k ∈ idx)) :
    Kd.S d e w base ok v (idx.map x) := by
  obtain ⟨h0, inner, ho, hr⟩ := ho
  have hs : (Kd.raw d.sz).sz = d.sz := rfl
  rw [hs] at ho hr
  obtain ⟨f', hf'⟩ := Kd.reps_tag (d := d) (w := w) (base := base) (ok := fun k => ok k ∧ some k ≠ v.ownBlock) (xs := idx.map x) (inner := inner) (fun j k => (ok k ∧ some k ≠ v.ownBlock) ∧ idx[j]? = some (f k))
    (fun i j k hi hj => nodup_at hn hi.2 hj.2)
    (fun j k h => h.1)
    (by rw [hr.1]; simp)
    (fun j p hj => by
      rw [List.getElem?_map] at hj
      obtain ⟨i, hi, rfl⟩ := Option.map_eq_some_iff.1 hj
      have hg := hr.2 j (g i) (by rw [List.getElem?_map, hi]; rfl)
      have hmem : i ∈ idx := List.mem_of_getElem? hi
      have hc : (inner.drop (j * d.sz)).take d.sz = g i := hg.1
      rw [hc]
      refine d.M_mono ?_ (hM i hmem)
      intro k hk
      exact ⟨⟨hk.1, fun hkv => hv k hkv.symm (by rw [hk.2]; exact hmem)⟩, by rw [hi, hk.2]⟩)
  refine ⟨f', fun k hk => h1 k (h0 k hk), inner, ?_, ?_⟩
  · rw [List.length_zipIdx, List.length_map]
    rw [List.length_map] at ho
    exact ho
  · have := hf'
    refine ⟨this.1, fun j p hj => this.2 j p hj⟩
end Go.Proofs.YthmcdiekgfgpdaaW.PrintWords

namespace Go.Proofs.Ythmcdiekgfgpdaa.T
theorem til_iff (W : Nat) (H : Int) (hW : 0 < W) (hH : 0 ≤ H) (t : List Sq) : t ∈ tilings W H ↔ Til W H t := by
  rw [til_mem W H hW hH]
  constructor
  · rintro ⟨T, hl⟩
    have hb : ∀ q ∈ t, inBox W H q := fun q hq => by
      have h1 := T.box q hq
      have h2 := T.over q hq q.f0.toNat (by omega) (by omega)
      rw [ht_zeros] at h2
      rw [List.length_replicate] at h1
      unfold inBox; omega
    refine ⟨⟨hb, T.apart, ?_⟩, hl⟩
    obtain ⟨h, rfl⟩ : ∃ h : Nat, H = h := ⟨H.toNat, by omega⟩
    refine area_of_covered W h t hb T.apart (fun a b h0 h1 h2 h3 => ?_)
    obtain ⟨a, rfl⟩ : ∃ c : Nat, a = c := ⟨a.toNat, by omega⟩
    exact T.full a b (by rw [List.length_replicate]; omega) (by rw [ht_zeros]; exact h2) h3
  · intro T
    refine ⟨⟨fun q hq => ?_, fun q hq c _ _ => ?_, T.fill.apart, fun c b hc h2 h3 => ?_⟩, T.lt⟩
    · have := T.fill.box q hq
      unfold inBox at this
      rw [List.length_replicate]; omega
    · have := T.fill.box q hq
      unfold inBox at this
      rw [ht_zeros]; omega
    · obtain ⟨h, rfl⟩ : ∃ h : Nat, H = h := ⟨H.toNat, by omega⟩
      rw [List.length_replicate] at hc
      rw [ht_zeros] at h2
      exact covered W h t T.fill.box T.fill.apart T.fill.area c b (by omega) (by omega) h2 h3
theorem tilL_iff (W H : Int) (hW : 0 < W) (hH : 0 ≤ H) (t : List Sq) : t ∈ tilings W.toNat H ↔ Til W H t := by
  rw [til_iff W.toNat H (by omega) hH, Int.toNat_of_nonneg (by omega)]
end Go.Proofs.Ythmcdiekgfgpdaa.T

namespace Go.Proofs.Ythmcdiekgfgpdaa.T
def minL : List (List Sq) → List Sq
  | [] => []
  | a :: l => l.foldl (fun b c => if lexB c b = true then c else b) a
def IsMin (L : List (List Sq)) (b : List Sq) : Prop := b ∈ L ∧ ∀ c ∈ L, lexB c b = false
theorem lexB_ntrans {a b c : List Sq} (h : lexB a b = false) (k : lexB b c = false) : lexB a c = false := by
  cases hc : lexB a c with
  | false => rfl
  | true =>
    by_cases e : b = c
    · subst e; rw [h] at hc; cases hc
    · rcases lexB_total e with h1 | h1
      · rw [k] at h1; cases h1
      · rw [lexB_trans hc h1] at h; cases h
theorem IsMin.unique {L M : List (List Sq)} {a b : List Sq} (h : IsMin L a) (k : IsMin M b) (e : ∀ x, x ∈ L ↔ x ∈ M) : a = b := by
  by_cases c : a = b
  · exact c
  · rcases lexB_total c with h1 | h1
    · rw [k.2 a ((e a).1 h.1)] at h1; cases h1
    · rw [h.2 b ((e b).2 k.1)] at h1; cases h1
def t2 (W H : Int) (l : List Sq) : List Sq := turnL W (turnL H l)
theorem Til.t2 {W H : Int} {l : List Sq} (g : Til W H l) : Til W H (t2 W H l) := g.turn.turn
def orb4 (W H : Int) (l : List Sq) : List (List Sq) := [l, mirL W l, t2 W H l, mirL W (t2 W H l)]
def orb8 (W : Int) (l : List Sq) : List (List Sq) :=
  [l, mirL W l, turnL W l, mirL W (turnL W l), turnL W (turnL W l), mirL W (turnL W (turnL W l)), turnL W (turnL W (turnL W l)), mirL W (turnL W (turnL W (turnL W l)))]
def first (W H : Int) (l : List Sq) : List Sq := if H < W then minL (orb4 W H l) else if W < H then minL (orb4 H W (turnL H l)) else minL (orb8 W l)
end Go.Proofs.Ythmcdiekgfgpdaa.T

namespace Go.Proofs.Ythmcdiekgfgpdaa.T
theorem lexB_asymm' (a b : List Sq) (h : lexB a b = true) : lexB b a = false := lexB_asymm h
theorem insG_len {α : Type} (lt : α → α → Bool) (z s : α) (out : List α) : (insG lt z s out).length = out.length + 1 := by
  have := (insG_perm lt z s out).length_eq
  simpa using this
theorem srtF_cons {α : Type} (lt : α → α → Bool) (z s : α) (o l : List α) : srtF lt z o (s :: l) = srtF lt z (insG lt z s o) l := rfl
theorem insK_map {α β : Type} (lt : β → β → Bool) (g : α → β) (z : α) (s : α) (out : List α) : ∀ k, insK lt (g z) (g s) (out.map g) k = insK (fun a b => lt (g a) (g b)) z s out k
  | 0 => rfl
  | k + 1 => by
    have e : (out.map g).getD k (g z) = g (out.getD k z) := by
      rw [List.getD_eq_getElem?_getD, List.getD_eq_getElem?_getD, List.getElem?_map]
      cases out[k]? <;> rfl
    simp only [insK, e, insK_map lt g z s out k]
theorem insG_map {α β : Type} (lt : β → β → Bool) (g : α → β) (z s : α) (out : List α) : insG lt (g z) (g s) (out.map g) = (insG (fun a b => lt (g a) (g b)) z s out).map g := by
  unfold insG
  rw [List.length_map, insK_map, List.map_append, List.map_cons, List.map_take, List.map_drop]
theorem srtF_map {α β : Type} (lt : β → β → Bool) (g : α → β) (z : α) : ∀ (l o : List α), srtF lt (g z) (o.map g) (l.map g) = (srtF (fun a b => lt (g a) (g b)) z o l).map g
  | [], o => rfl
  | a :: l, o => by rw [List.map_cons, srtF_cons, srtF_cons, insG_map, srtF_map lt g z l]
end Go.Proofs.Ythmcdiekgfgpdaa.T

namespace Go.Proofs.Ythmcdiekgfgpdaa.T
theorem flat_len {α β : Type} (g : α → List β) (b : Nat) : ∀ l : List α, (∀ a ∈ l, (g a).length ≤ b) → (l.flatMap g).length ≤ l.length * b
  | [], _ => by simp
  | a :: l, h => by
    rw [List.flatMap_cons, List.length_append, List.length_cons, Nat.add_mul, Nat.one_mul]
    have h1 := h a List.mem_cons_self
    have h2 := flat_len g b l (fun x hx => h x (List.mem_cons_of_mem _ hx))
    omega
theorem gen_count (h : Int) (M : Nat) (hM1 : 1 ≤ M) : ∀ (n : Nat) (f : List Int) (more : Nat), Fits f h → left h f < n → (∀ c, c < f.length → 0 ≤ ht f c) → min f.length h.toNat ≤ M → ((gen h n f).filter (fun t => decide (t.length ≤ more))).length ≤ M ^ more
  | 0, f, more, _, hn, _, _ => by omega
  | n + 1, f, more, F, hn, hpos, hM => by
    have L := low_spec f F.1
    have hl := runAt_le f (low f) (by have := L.lt; omega)
    simp only [gen]
    split
    · exact Nat.le_trans (List.length_filter_le _ _) (Nat.one_le_pow _ _ hM1)
    · rw [filter_flatMap']
      cases more with
      | zero =>
        rw [show ((List.range (room f h (low f))).flatMap fun i => List.filter (fun t => decide (t.length ≤ 0)) ((gen h n (place f (low f) (i + 1) (ht f (low f) + (i + 1 : Nat)))).map (⟨low f, ht f (low f), (i + 1 : Nat)⟩ :: ·))) = [] from ?_]
        · simp
        · rw [List.flatMap_eq_nil_iff]
          intro i _
          rw [List.filter_eq_nil_iff]
          intro t ht_
          obtain ⟨t', _, rfl⟩ := List.mem_map.1 ht_
          simp
      | succ more =>
        have hr : room f h (low f) ≤ M := by
          have := hpos _ L.lt
          unfold room
          omega
        refine Nat.le_trans (flat_len _ (M ^ more) _ (fun i hi => ?_)) ?_
        · have hi := List.mem_range.1 hi
          obtain ⟨F', hn'⟩ := step_fits F hi hn
          unfold room at hi
          have hx : low f + (i + 1) ≤ f.length := by omega
          rw [List.filter_map, List.length_map]
          have ih := gen_count h M hM1 n _ more F' hn' (fun c hc => by
            rw [ht_place _ _ _ _ hx]
            rw [place_length _ _ _ _ hx] at hc
            have := hpos _ L.lt
            split
            · omega
            · exact hpos c hc) (by rw [place_length _ _ _ _ hx]; exact hM)
          refine Nat.le_trans (Nat.le_of_eq ?_) ih
          congr 2
          funext t
          simp [Function.comp]
        · rw [List.length_range, Nat.pow_succ, Nat.mul_comm]
          exact Nat.mul_le_mul_left _ hr
theorem tilMost_count (W : Nat) (H : Int) (hW : 0 < W) (hH : 1 ≤ H) (more : Nat) : (tilMost W H more).length ≤ (min W H.toNat) ^ more := by
  have := gen_count H (min W H.toNat) (by omega) (W * H.toNat + 1) (List.replicate W 0) more (fits_zeros W H hW (by omega)) (by rw [left_zeros]; omega) (fun c _ => by rw [ht_zeros]; exact Int.le_refl _) (by rw [List.length_replicate]; exact Nat.le_refl _)
  unfold tilMost tilings
  refine Nat.le_trans (Nat.le_of_eq ?_) this
  congr 2
  funext t
  simp
theorem list_count (W : Nat) (H : Int) (hW : 0 < W) (hH : 0 < H) (hm : (W : Int) * H ≤ 16) : (tilings W H).length ≤ 4294967296 := by
  obtain ⟨h, rfl⟩ : ∃ h : Nat, H = h := ⟨H.toNat, by omega⟩
  have hm' : W * h ≤ 16 := by exact_mod_cast hm
  have h4 : min W h ≤ 4 := by
    rcases Nat.lt_or_ge 4 (min W h) with c | c
    · exfalso
      have : 5 * 5 ≤ W * h := Nat.mul_le_mul (by omega) (by omega)
      omega
    · exact c
  have e := tilMost_all W h hW (by omega)
  have c := tilMost_count W h hW (by omega) (W * h)
  rw [show ((W * h : Nat) : Int) = (W : Int) * h by simp, e, Int.toNat_natCast] at c
  have h5 : min W h ^ (W * h) ≤ 4 ^ 16 := Nat.le_trans (Nat.pow_le_pow_left h4 _) (Nat.pow_le_pow_right (by omega) hm')
  omega
end Go.Proofs.Ythmcdiekgfgpdaa.T

namespace Go.Proofs.Ythmcdiekgfgpdaa.P
open Go.RowKit Go.Proofs.YthmcdiekgfgpdaaW.PrintWords Go.Proofs.YthmcdiekgfgpdaaW.PrintLast Go.Proofs.YthmcdiekgfgpdaaW.PrintMore
attribute [local go_sem] max2_int min2_int max_two min_two max_three min_three max_four min_four
set_option linter.unusedVariables false
set_option linter.unusedSimpArgs false
open Go.Proofs.Ythmcdiekgfgpdaa.T Go.Proofs.Ythmcdiekgfgpdaa.Aid Go.Proofs.Ythmcdiekgfgpdaa.Gr Go.Proofs.Ythmcdiekgfgpdaa.Pure
def spec_ctAll.f (a0 a1 : Int) : Option (List Ct) := if 1 ≤ a0 ∧ 1 ≤ a1 ∧ a0 * a1 ≤ 16 then some ((tilings a0.toNat a1).map (fun t => (⟨a0, a1, t⟩ : Ct))) else none
def cgx (a b : Int) (L : List (List Sq)) (Af : Nat → Option Addr) (cf : Nat → Nat) (j : Nat) : List Value := [.int .i64 a, .int .i64 b, .slice (Af j) (L.getD j []).length (cf j)]
theorem cgx_raw (a b : Int) (L : List (List Sq)) (Af : Nat → Option Addr) (cf : Nat → Nat) (j : Nat) : (cgx a b L Af cf j).length = 3 ∧ ∀ u ∈ cgx a b L Af cf j, u.oneCell' = true := by
  refine ⟨rfl, fun u hu => ?_⟩
  unfold cgx at hu
  rcases List.mem_cons.1 hu with rfl | hu
  · rfl
  · rcases List.mem_cons.1 hu with rfl | hu
    · rfl
    · rw [List.mem_singleton.1 hu]; rfl
theorem raw_of_S {w : World} {base : Nat} {ok : Nat → Prop} {v : Value} {a b : Int} {L : List (List Sq)} (h : Kd.S k29 29 w base ok v (L.map (fun t => (⟨a, b, t⟩ : Ct)))) :
    ∃ (Af : Nat → Option Addr) (cf f : Nat → Nat), (Kd.raw 3).R 29 w base ok v ((List.range L.length).map (cgx a b L Af cf)) ∧ ∀ j, j < L.length → Kd.R k42 42 w base (fun k => (ok k ∧ some k ≠ v.ownBlock) ∧ f k = j) (.slice (Af j) (L.getD j []).length (cf j)) (L.getD j []) := by
  obtain ⟨f, h0, inner, ho, hr⟩ := h
  have hsz : ((Kd.tag f k29)).sz = 3 := rfl
  rw [hsz] at ho hr
  have hall : ∀ j, ∃ p : Option Addr × Nat, j < L.length → (inner.drop (j * 3)).take 3 = [.int .i64 a, .int .i64 b, .slice p.1 (L.getD j []).length p.2] ∧ Kd.R k42 42 w base (fun k => (ok k ∧ some k ≠ v.ownBlock) ∧ f k = j) (.slice p.1 (L.getD j []).length p.2) (L.getD j []) := fun j => by
    by_cases hj : j < L.length
    · have hx : (L.map (fun t => (⟨a, b, t⟩ : Ct)))[j]? = some ⟨a, b, L.getD j []⟩ := by
        rw [List.getElem?_map, List.getElem?_eq_getElem hj, List.getD_eq_getElem?_getD, List.getElem?_eq_getElem hj]; rfl
      have hM := hr.2 j (⟨a, b, L.getD j []⟩, j) (Kd.zip_at hx)
      obtain ⟨v2, e, hR⟩ := k29_openM (show (k29).M w base (fun k => (ok k ∧ some k ≠ v.ownBlock) ∧ f k = j) ⟨a, b, L.getD j []⟩ _ from hM)
      obtain ⟨A, c, rfl⟩ := Kd.R_slice hR
      exact ⟨(A, c), fun _ => ⟨e, hR⟩⟩
    · exact ⟨(none, 0), fun h => absurd h hj⟩
  obtain ⟨p, hp⟩ := Classical.axiomOfChoice hall
  refine ⟨fun j => (p j).1, fun j => (p j).2, f, ⟨h0, inner, ?_, ?_, fun j q hq => ?_⟩, fun j hj => (hp j hj).2⟩
  · rw [List.length_zipIdx, List.length_map] at ho
    rw [List.length_map, List.length_range]; exact ho
  · have := hr.1
    rw [List.length_zipIdx, List.length_map] at this
    rw [List.length_map, List.length_range]; exact this
  · rw [List.getElem?_map] at hq
    obtain ⟨i, hi, rfl⟩ := Option.map_eq_some_iff.1 hq
    obtain ⟨hl, rfl⟩ := List.getElem?_eq_some_iff.1 hi
    rw [List.length_range] at hl
    rw [List.getElem_range]
    have e := (hp j hl).1
    have hg : (inner.drop (j * 3)).take 3 = cgx a b L (fun j => (p j).1) (fun j => (p j).2) j := e
    show (inner.drop (j * 3)).take 3 = _ ∧ ((inner.drop (j * 3)).take 3).length = 3 ∧ ∀ u ∈ (inner.drop (j * 3)).take 3, u.oneCell' = true
    rw [hg]
    exact ⟨rfl, cgx_raw _ _ _ _ _ _⟩
theorem raw_at {w : World} {A : Option Addr} {n : Nat} {idx : List Nat} {a b : Int} {L : List (List Sq)} {Af : Nat → Option Addr} {cf : Nat → Nat} (h : Kd.C (Kd.raw 3) w A n (idx.map (cgx a b L Af cf))) (i : Int) (h0 : 0 ≤ i) (h1 : i < n) (hn : n = idx.length) :
    ∃ ad, A = some ad ∧ w.cell? (ad.add (i.toNat * 3)) = some (.int .i64 a) ∧ w.cell? ⟨(ad.add (i.toNat * 3)).block, (ad.add (i.toNat * 3)).off + 1, none⟩ = some (.int .i64 b) ∧ w.cell? ⟨(ad.add (i.toNat * 3)).block, (ad.add (i.toNat * 3)).off + 2, none⟩ = some (.slice (Af (idx.getD i.toNat 0)) (L.getD (idx.getD i.toNat 0) []).length (cf (idx.getD i.toNat 0))) := by
  obtain ⟨ad, c, e, _, hK, hc0⟩ := Kd.C_get h (cgx a b L Af cf 0) i h0 h1
  have hc : ∀ j u, c[j]? = some u → w.cell? (ad.add (i.toNat * 3 + j)) = some u := hc0
  have hg : (idx.map (cgx a b L Af cf)).getD i.toNat (cgx a b L Af cf 0) = cgx a b L Af cf (idx.getD i.toNat 0) := by
    rw [List.getD_eq_getElem?_getD, List.getD_eq_getElem?_getD, List.getElem?_map]
    cases idx[i.toNat]? <;> rfl
  rw [hg] at hK
  have hcc : c = cgx a b L Af cf (idx.getD i.toNat 0) := hK.1
  subst hcc
  exact ⟨ad, e, hc 0 _ rfl, by rw [← add_field _ _ 1 (by omega)]; exact hc 1 _ rfl, by rw [← add_field _ _ 2 (by omega)]; exact hc 2 _ rfl⟩
theorem rawR_slice {w : World} {base : Nat} {ok : Nat → Prop} {v : Value} {xs : List (List Value)} (h : (Kd.raw 3).R 29 w base ok v xs) : ∃ A c, v = .slice A xs.length c := Kd.R_slice h
theorem srtI_drop (lt : Nat → Nat → Bool) (n : Nat) (o : List Nat) (i : Nat) (hi : i < n) : srtF lt 0 o ((List.range n).drop i) = srtF lt 0 (insG lt 0 i o) ((List.range n).drop (i + 1)) := by
  rw [List.drop_eq_getElem_cons (by rw [List.length_range]; exact hi), List.getElem_range]; rfl
theorem idx_srt (W : Nat) (H : Int) (L : List (List Sq)) (hL : L = (tilings W H).reverse) : (srtF (fun i j => lexB (L.getD i []) (L.getD j [])) 0 [] (List.range L.length)).map (fun j => L.getD j []) = tilings W H := by
  have h := srtF_map lexB (fun j => L.getD j []) 0 (List.range L.length) []
  have e : (List.range L.length).map (fun j => L.getD j []) = L := by
    refine List.ext_getElem (by simp) (fun i h1 h2 => ?_)
    simp [h2]
  rw [e] at h
  rw [← h]
  show srtG lexB _ L = _
  subst hL
  exact srtG_eq _ lexB_asymm' (fun a b c h k => lexB_ntrans h k) (List.reverse_perm (tilings W H)).symm (til_lex W H)
theorem idx_perm (lt : Nat → Nat → Bool) (n : Nat) : (srtF lt 0 [] (List.range n)).Perm (List.range n) := by have := srtF_perm lt 0 (List.range n) []; rwa [List.nil_append] at this
theorem R_slcr {w : World} {base e : Nat} {ok : Nat → Prop} {v : Value} {xs : List (List Value)} (h : (Kd.raw 3).R e w base ok v xs) : ∃ A n c, v = .slice A n c := by
  obtain ⟨A, c, e⟩ := Kd.R_slice h
  exact ⟨_, _, _, e⟩
theorem R_emptycr (W : World) (base : Nat) (hb : base ≤ W.heap.size) : (Kd.raw 3).R 29 (W.alloc (.cells #[] 29)) base (fun _ => True) (.slice (some ⟨W.heap.size, 0, none⟩) 0 0) [] :=
  ⟨fun k hk => trivial, [], World.ownsRow_lit (base := base) (e := 29) (size := 3) W #[] 0 hb (by simp [maxLen]) (by simp), Reps.none _ _⟩
theorem raw_M (w : World) (base : Nat) (ok : Nat → Prop) (a b : Int) (A : Option Addr) (n c : Nat) : (Kd.raw 3).M w base ok [.int .i64 a, .int .i64 b, .slice A n c] [.int .i64 a, .int .i64 b, .slice A n c] := ⟨rfl, rfl, fun u hu => by
  rcases List.mem_cons.1 hu with rfl | hu
  · rfl
  · rcases List.mem_cons.1 hu with rfl | hu
    · rfl
    · rw [List.mem_singleton.1 hu]; rfl⟩
theorem C_of_blkcr {W : World} {B : Nat} (a b : Int) (A : Option Addr) (n c : Nat) (h : W.heap[B]? = some (.cells #[.int .i64 a, .int .i64 b, .slice A n c] 29 (0, 0))) : Kd.C (Kd.raw 3) W (some ⟨B, 0, none⟩) 1 [[.int .i64 a, .int .i64 b, .slice A n c]] := by
  have hh : (Kd.raw 3).R 29 W 0 (fun _ => True) (.slice (some ⟨B, 0, none⟩) 1 1) [[.int .i64 a, .int .i64 b, .slice A n c]] :=
    ⟨fun k hk => trivial, [.int .i64 a, .int .i64 b, .slice A n c], ⟨by rfl, .inr ⟨B, 1, _, rfl, Nat.zero_le _, h, Nat.le_refl _, by simp [maxLen], by rfl, by rfl⟩⟩, Reps.c3 (raw_M W 0 _ a b A n c) (Reps.none _ _)⟩
  exact (Kd.R_reads' hh).2.2
theorem ct_prod_le {W H : Int} (h0 : 1 ≤ W) (h1 : 1 ≤ H) (h : W * H ≤ 16) : W ≤ 16 ∧ H ≤ 16 := by
  have e1 : W * 1 ≤ W * H := Int.mul_le_mul_of_nonneg_left h1 (by omega)
  have e2 : 1 * H ≤ W * H := Int.mul_le_mul_of_nonneg_right h0 (by omega)
  omega
theorem ct_madeZ (n : Nat) : madeCells (Value.int .i64 0).cells (n * 1) = ((List.replicate n (0 : Int)).map (Value.int .i64)).toArray := by
  unfold madeCells
  rw [Nat.mul_one]
  apply Array.ext
  · simp
  · intro i h1 h2
    have e : (Value.int .i64 0).cells = #[Value.int .i64 0] := rfl
    simp [e, Nat.mod_one]
theorem ct_row_of_blk {w : World} {g base : Nat} {ok : Nat → Prop} {l : List Int} (h : w.heap[g]? = some (.cells (l.map (Value.int .i64)).toArray 3 (0, 0))) (hb : base ≤ g) (ho : ok g) (hl : l.length ≤ 1000000) : Kd.R (Kd.int .i64) 3 w base ok (.slice (some ⟨g, 0, none⟩) l.length l.length) l := by
  have hs : (Kd.int .i64).sz = 1 := rfl
  refine ⟨fun k hk => ?_, l.map (Value.int .i64), ⟨by rw [hs]; simp, .inr ⟨g, l.length, _, rfl, hb, h, Nat.le_refl _, by simp only [maxLen]; omega, by rw [hs]; simp, by rw [hs]; simp; exact List.take_of_length_le (by simp)⟩⟩, by rw [hs]; simp, fun j p hj => ?_⟩
  · have : g = k := by simpa [Value.ownBlock] using hk
    subst this; exact ho
  · have hjl := (List.getElem?_eq_some_iff.1 hj).1
    have hp := (List.getElem?_eq_some_iff.1 hj).2
    rw [hs, Nat.mul_one]
    show (List.take 1 (List.drop j (l.map (Value.int .i64)))) = [.int .i64 p]
    rw [List.drop_eq_getElem_cons (by simpa using hjl)]
    simp [hp]
theorem ct_look_zeros (W : Nat) (H : Int) (hW : 0 < W) (hH : 0 < H) (m : Nat) : (lookP H (min (W : Int) H) (W * H.toNat + 1) (List.replicate W 0) [] m).map (fun t => (⟨W, H, srt t⟩ : Ct)) = (tilMost W H m).reverse.map (fun t => (⟨W, H, t⟩ : Ct)) := by
  rw [look_til W H m hW (by omega) (by omega)]
  refine List.map_congr_left (fun t ht => ?_)
  have h1 := (List.mem_filter.1 (List.mem_reverse.1 ht)).1
  rw [srt_id ((til_iff W H hW (by omega) t).1 h1).lt]
theorem ct_feLook_zeros (w0 : World) (OB : Nat) (W : Nat) (H : Int) (hW : 1 ≤ W ∧ W ≤ 100) (hH : 1 ≤ H ∧ H ≤ 100) (m : Nat) (hm : m ≤ 100000) (hl : (tilMost W H m).length ≤ 1000000000000) (vO vF : Value) (w : World)
    (hO : LO w0 OB vO [] w) (hF : Kd.R (Kd.int .i64) 3 w w0.heap.size (fun _ => True) vF (List.replicate W 0)) :
    Calls Try.prog 15 #[.int .i64 (W : Int), .int .i64 H, vF, .slice none 0 0, .int .i64 (m : Int), .pointer (some ⟨OB, 0, none⟩)] w (LookPost w0 OB vO ((tilMost W H m).reverse.map (fun t => (⟨W, H, t⟩ : Ct))) w) := by
  have hle : W * H.toNat ≤ 100 * 100 := Nat.mul_le_mul hW.2 (by omega)
  have h := spec_feLook_calls w0 OB H (by omega) W (by omega) (W * H.toNat + 1) (List.replicate W 0) [] m vO vF (.slice none 0 0) [] w hO hF (Kd.R_nil _ _ _ _ _) (by simp) (fits_zeros W H (by omega) (by omega)) (by rw [left_zeros]; omega) (fun c _ => by rw [ht_zeros]; exact Int.le_refl _) (by rw [left_zeros]; simp; omega) (by rw [left_zeros]; omega) (by omega)
    (by rw [look_til W H m (by omega) (by omega) (by omega)]; simpa using hl)
  rw [List.nil_append, ct_look_zeros W H (by omega) (by omega) m] at h
  exact h
set_option maxHeartbeats 8000000 in
set_option maxRecDepth 100000 in
theorem spec_ctAll.calls (a0 a1 : Int) (r : List Ct) (w : World) (h : spec_ctAll.f a0 a1 = some r) :
    Calls Try.prog 7 #[.int .i64 a0, .int .i64 a1] w fun e w' => ∃ v0_ : Value, e = .returned v0_ ∧ Kd.S k29 29 w' w.heap.size (fun _ => True) v0_ r ∧ Below w.heap.size w w' := by
  unfold spec_ctAll.f at h
  by_cases hr : 1 ≤ a0 ∧ 1 ≤ a1 ∧ a0 * a1 ≤ 16
  · rw [if_pos hr] at h
    have hp := ct_prod_le hr.1 hr.2.1 hr.2.2
    obtain ⟨W, hW⟩ : ∃ W : Nat, (W : Int) = a0 := ⟨a0.toNat, by omega⟩
    have hWn : a0.toNat = W := by omega
    rw [hWn] at h
    obtain ⟨i0, hi0, hz0, hz1, hz2⟩ := info_parts info3
    have hmk : ∀ W' : World, (Instr.makeSlice 37 (.int .i64 (W : Int)) (.int .i64 (W : Int))).run Try.prog W' = .ok (.slice (some ⟨W'.heap.size, 0, none⟩) W W) (W'.alloc (.cells ((List.replicate W (0 : Int)).map (Value.int .i64)).toArray 3)) := fun W' => by
      have := run_make W' 37 3 i0 _ Try.underlying37 hi0 hz0 .i64 .i64 (W : Int) (W : Int) (by omega) (Int.le_refl _) (by rw [hz2]; omega) (by omega)
      rw [hz1, Int.toNat_natCast, ct_madeZ] at this
      exact this
    clear hi0 hz0 hz1 hz2
    have hm16 : W * a1.toNat ≤ 16 := by
      have : ((W * a1.toNat : Nat) : Int) = a0 * a1 := by rw [Int.natCast_mul, hW, Int.toNat_of_nonneg (by omega)]
      omega
    obtain ⟨M, hM⟩ : ∃ M : Int, a0 * a1 = M := ⟨_, rfl⟩
    have hMm : ((W * a1.toNat : Nat) : Int) = M := by rw [Int.natCast_mul, hW, Int.toNat_of_nonneg (by omega)]; exact hM
    have hcnt := list_count W a1 (by omega) (by omega) (by rw [hW]; exact hr.2.2)
    have hall : tilMost W a1 ((W * a1.toNat : Nat) : Int) = tilings W a1 := by
      have h1 := tilMost_all W a1 (by omega) (by omega)
      rw [← h1]; congr 1; rw [Int.natCast_mul, Int.toNat_of_nonneg (by omega)]
    have HLK := Aside0.mk (fun (OB : Nat) => ct_feLook_zeros w OB W a1 (by omega) (by omega) (W * a1.toNat) (by omega) (by rw [hall]; omega))
    rw [hall, hMm, hW] at HLK
    rw [hW] at hmk
    obtain ⟨L, hL⟩ : ∃ L, (tilings W a1).reverse = L := ⟨_, rfl⟩
    rw [hL] at HLK
    have HTL : Aside0 (∀ t ∈ L, t.length ≤ 1000) := ⟨fun t ht => by
      rw [← hL] at ht
      have h1 := (til_len W a1 (by omega) (by omega) t (List.mem_reverse.1 ht)).2
      have h2 : ((W : Int) * a1) ≤ 16 := by rw [hW]; exact hr.2.2
      omega⟩
    obtain ⟨n, hn⟩ : ∃ n, L.length = n := ⟨_, rfl⟩
    have HN : Aside0 (L.length = n ∧ n ≤ 4294967296) := ⟨hn, by rw [← hn, ← hL, List.length_reverse]; omega⟩
    have HRES : Aside0 ((srtF (fun i j => lexB (L.getD i []) (L.getD j [])) 0 [] (List.range n)).map (fun j => (⟨a0, a1, L.getD j []⟩ : Ct)) = r) := ⟨by
      have h1 := idx_srt W a1 L hL.symm
      rw [hn] at h1
      rw [← Option.some.inj h, ← h1, List.map_map]; rfl⟩
    have HROW := Aside0.mk (fun (V : World) (hV : w.heap.size ≤ V.heap.size) => ct_row_of_blk (base := w.heap.size) (ok := fun _ => True) (l := List.replicate W (0 : Int)) (heap_alloc_new V _) hV trivial (by simp; omega))
    have hlr : (List.replicate W (0 : Int)).length = W := by simp
    rw [hlr] at HROW
    generalize hf : (List.replicate W (0 : Int)).map (Value.int .i64) = cells at hmk HROW
    have HB1 : Aside0 (Below w.heap.size w ((w.alloc (.cells #[.slice none 0 0] 25)).alloc (.cells cells.toArray 3))) := ⟨below_alloc (below_alloc (Below.refl _ _) _) _⟩
    have HLO : Aside0 (LO w w.heap.size (.slice none 0 0) [] ((w.alloc (.cells #[.slice none 0 0] 25)).alloc (.cells cells.toArray 3))) := ⟨⟨HB1.out, blk_alloc (heap_alloc_new w _) _, Nat.le_refl _, Kd.S_nil _ _ _ _ _⟩⟩
    have HRW := Aside0.mk (HROW.out (w.alloc (.cells #[.slice none 0 0] 25)) (by simp))
    have hsz1 : (w.alloc (.cells #[.slice none 0 0] 25)).heap.size = w.heap.size + 1 := by simp
    rw [hsz1] at HRW
    have HC0 := Aside0.mk (HLK.out w.heap.size _ _ _ HLO.out HRW.out)
    have hwM : wrap64 (a0 * a1) = M := by rw [w64 (by omega) (by omega)]; exact hM
    have hu60 := Try.underlying29
    clear hsz1 hlr hf hr hp hW hWn h hcnt hall hMm hm16 hL hn HLK HB1 HLO HRW HROW
    generalize hlt0 : (fun i j => lexB (L.getD i []) (L.getD j [])) = lt at HRES
    have HLT : Aside0 (∀ i j, lt i j = lexB (L.getD i []) (L.getD j [])) := ⟨fun i j => by rw [← hlt0]⟩
    clear hlt0
    have HWM := Aside0.mk hM
    clear hM
    go_enter Try.func7, Try.ntmps7
    go_wp2_with (go_at_call 15; refine HC0.out.mono ?_; rintro e w1 ⟨⟨v, rfl⟩, vO2, hO2, _, _⟩; obtain ⟨A0, c0, e2⟩ := Kd.S_slice hO2.row; rw [List.length_map, HN.out.1] at e2; subst e2; have HO2 := Aside0.mk hO2; have hcc := hO2.cell; clear hO2)
    obtain ⟨Af, cf, f, hraw, hrows⟩ := raw_of_S HO2.out.row
    rw [HN.out.1] at hraw hrows
    have HR0 := Aside0.mk hraw
    have HROWS := Aside0.mk hrows
    have HBW := Aside0.mk HO2.out.be
    clear hraw hrows HC0 HO2 hmk
    go_loopg [6, 21] n (fun kq v6 v21 wc => ∃ (i : Nat) (xi : Int) (out : List Nat) (xo : List (List Value)), i ≤ n ∧ n - i ≤ kq ∧ (i : Int) = xi ∧ v21 = .int .i64 xi ∧ Aside0 (xo = out.map (cgx a0 a1 L Af cf) ∧ xo.length = i ∧ srtF lt 0 out ((List.range n).drop i) = srtF lt 0 [] (List.range n)) ∧ Aside0 ((Kd.raw 3).R 29 wc w1.heap.size (fun _ => True) v6 xo) ∧ Aside0 (Below w1.heap.size w1 wc))
    case atStart => exact ⟨0, 0, [], [], by omega, by omega, rfl, rfl, ⟨rfl, rfl, rfl⟩, ⟨Kd.R_nil _ _ _ _ _⟩, ⟨Below.refl _ _⟩⟩
    case round =>
      obtain ⟨i, xi, out, xo, hi, hk, hxi, rfl, HV, HO, HB⟩ := hrel
      by_cases hlt : i < n
      · have b1 : decide (xi < (n : Int)) = true := decide_eq_true (by omega)
        have hgi : (List.range n).getD xi.toNat 0 = i := by
          rw [← hxi, Int.toNat_natCast, List.getD_eq_getElem?_getD, List.getElem?_range hlt]; rfl
        obtain ⟨ad, e1, h0, h1, h2⟩ := raw_at (Kd.R_reads' HR0.out).2.2 xi (by omega) (by simp; omega) (by simp)
        cases e1
        rw [hgi] at h2
        have HAI := HROWS.out i hlt
        have HTI : Aside0 ((L.getD i []).length ≤ 1000) := ⟨by
          rw [List.getD_eq_getElem?_getD]
          cases hx : L[i]? with
          | none => simp
          | some t => exact HTL.out t (List.mem_of_getElem? hx)⟩
        generalize hAi : Af i = Ai at h2 HAI
        generalize hci : cf i = ci at h2 HAI
        obtain ⟨ti, hti⟩ : ∃ ti, L.getD i [] = ti := ⟨_, rfl⟩
        rw [hti] at h2 HAI HTI
        obtain ⟨ni, hni⟩ : ∃ ni, ti.length = ni := ⟨_, rfl⟩
        rw [hni] at h2 HAI
        have HGI : Aside0 (cgx a0 a1 L Af cf i = [.int .i64 a0, .int .i64 a1, .slice Ai ni ci] ∧ L.getD i [] = ti ∧ ti.length = ni) := ⟨by unfold cgx; rw [hAi, hci, hti, hni], hti, hni⟩
        have HRI := Aside0.mk HAI
        clear HAI hAi hci hti hni hgi
        replace h0 := (HB.out.cell (World.block_lt_of_cell? w1 _ h0)).trans h0
        replace h1 := (HB.out.cell (World.block_lt_of_cell? w1 _ h1)).trans h1
        replace h2 := (HB.out.cell (World.block_lt_of_cell? w1 _ h2)).trans h2
        have q1 := eq_true (show 0 ≤ xi by omega)
        have q2 := eq_true (show xi < (n : Int) by omega)
        obtain ⟨A1, c1, e1⟩ := rawR_slice HO.out
        subst e1
        have HI := Aside0.mk (And.intro hi (And.intro hk (And.intro hxi hlt)))
        clear hi hk hxi hlt
        go_wp2_with (first | ((with_reducible refine gate_dst (N := 8) rfl ?_); refine box_event ?hg (N := 8) ?hd (cs := #[.int .i64 0, .int .i64 0, .slice none 0 0]) (t := 29) ?hr ?_; (case hd => rfl); (case hg => rfl); (case hr => first | (go_simp; done) | (go_simp; rfl)); intro gb hg w5 hbox hb; have HBX := Aside0.mk hbox; have HB5 := Aside0.mk hb; have HG := Aside0.mk hg; have hcz0 : w5.cell? ⟨gb, 0, none⟩ = some (.int .i64 0) := (blk_cell hbox 0).trans rfl; have hcz1 : w5.cell? ⟨gb, 1, none⟩ = some (.int .i64 0) := (blk_cell hbox 1).trans rfl; have hcz2 : w5.cell? ⟨gb, 2, none⟩ = some (.slice none 0 0) := (blk_cell hbox 2).trans rfl; have hfz0 := blk_frozen hbox 0; have hfz1 := blk_frozen hbox 1; have hfz2 := blk_frozen hbox 2; clear hb hbox hg))
        have GE : w1.heap.size ≤ gb := by rw [HG.out]; exact HB.out.size
        have HO5 := Kd.R_below (Kd.R_elderB HO.out gb (Nat.le_of_eq HG.out.symm)) HB5.out
        have HO6 : Aside0 ((Kd.raw 3).R 29 (((w5.setCell ⟨gb, 0, none⟩ (.int .i64 a0)).setCell ⟨gb, 1, none⟩ (.int .i64 a1)).setCell ⟨gb, 2, none⟩ (.slice Ai ni ci)) w1.heap.size (fun k_ => k_ ≠ gb) (.slice A1 xo.length c1) xo) := ⟨Kd.R_mono (Kd.R_far (p := ⟨gb, 2, none⟩) (Kd.R_far (p := ⟨gb, 1, none⟩) (Kd.R_far (p := ⟨gb, 0, none⟩) (Kd.R_mono HO5 (fun k_ hk => (⟨hk, hk.2⟩ : _ ∧ k_ ≠ gb))) (fun _ hk => hk.2) (.int .i64 a0)) (fun _ hk => hk.2) (.int .i64 a1)) (fun _ hk => hk.2) (.slice Ai ni ci)) (fun _ hk => hk.2)⟩
        have HX6 : Aside0 ((((w5.setCell ⟨gb, 0, none⟩ (.int .i64 a0)).setCell ⟨gb, 1, none⟩ (.int .i64 a1)).setCell ⟨gb, 2, none⟩ (.slice Ai ni ci)).heap[gb]? = some (.cells #[.int .i64 a0, .int .i64 a1, .slice Ai ni ci] 29 (0, 0))) := ⟨blk_put (cs := #[.int .i64 a0, .int .i64 a1, .slice none 0 0]) (blk_put (cs := #[.int .i64 a0, .int .i64 0, .slice none 0 0]) (blk_put (cs := #[.int .i64 0, .int .i64 0, .slice none 0 0]) HBX.out 0 _ rfl) 1 _ rfl) 2 _ rfl⟩
        have HB6 : Aside0 (Below w1.heap.size w1 (((w5.setCell ⟨gb, 0, none⟩ (.int .i64 a0)).setCell ⟨gb, 1, none⟩ (.int .i64 a1)).setCell ⟨gb, 2, none⟩ (.slice Ai ni ci))) := ⟨below_set (below_set (below_set (below_step HB.out HB5.out) GE) GE) GE⟩
        generalize (((w5.setCell ⟨gb, 0, none⟩ (.int .i64 a0)).setCell ⟨gb, 1, none⟩ (.int .i64 a1)).setCell ⟨gb, 2, none⟩ (.slice Ai ni ci)) = W6 at HO6 HX6 HB6 ⊢
        clear HBX HB5 HO5 hcz0 hcz1 hcz2 hfz0 hfz1 hfz2 h0 h1 h2 b1 q1 q2 HG HO HB
        go_loopg [9] xo.length (fun kq v9 wc => ∃ (j : Nat) (ji : Int), j ≤ xo.length ∧ j ≤ kq ∧ (j : Int) = ji ∧ v9 = .int .i64 ji ∧ Aside0 (insK lt 0 i out out.length = insK lt 0 i out j) ∧ Aside0 (Below W6.heap.size W6 wc))
        case atStart => exact ⟨xo.length, _, Nat.le_refl _, Nat.le_refl _, rfl, rfl, ⟨by rw [HV.out.1, List.length_map]⟩, ⟨Below.refl _ _⟩⟩
        case round =>
          obtain ⟨j, ji, hj, hjk, hji, rfl, HV2, HB7⟩ := hrel
          have HO7 := Aside0.mk (Kd.R_below HO6.out HB7.out)
          have HX7 := Aside0.mk (blk_below HX6.out HB7.out)
          have HJ := Aside0.mk (And.intro hj (And.intro hjk hji))
          have hol : xo.length ≤ 4294967296 := by have h1 := HV.out.2.1; have h2 := HI.out.1; have h3 := HN.out.2; omega
          obtain ⟨jp, hjp⟩ : ∃ jp : Int, ji - 1 = jp := ⟨_, rfl⟩
          have hwj : wrap64 (ji - 1) = jp := by rw [w64 (by omega) (by omega)]; exact hjp
          have HJP := Aside0.mk (And.intro hjp hwj)
          clear hj hjk hji hjp hwj
          go_upto_region 7 with (fail)
          go_cut [37] (fun v26 wc => ∃ b : Bool, v26 = .bool b ∧ Aside0 (if b = true then 0 < j ∧ insK lt 0 i out j = insK lt 0 i out (j - 1) else insK lt 0 i out j = j) ∧ Aside0 (Below wr.heap.size wr wc))
          case first => as_aux_lemma =>
            have hj1 := HJ.out
            rcases Nat.eq_zero_or_pos j with hz | hz
            · subst hz
              have z1 : decide ((0 : Int) < ji) = false := decide_eq_false (by omega)
              clear hj1
              refine wp_region_gr (by kernel_rfl) (by kernel_rfl) ?_
              repeat (go_big_quiet_step (fail))
              refine wpQuiet_nil ?_
              intro W2 hw'
              obtain ⟨⟨V2, hB2⟩, hw''⟩ := hw'
              replace hw'' : W2 = V2 := hw''
              subst hw''
              try go_wp2_with fail
              go_meet
              case rel => exact ⟨false, rfl, ⟨rfl⟩, ⟨hB2⟩⟩
            · have z1 : decide ((0 : Int) < ji) = true := decide_eq_true (by omega)
              have hjp := HJP.out.1
              have hwj := HJP.out.2
              have hxo := HV.out.1
              have HC7 := (Kd.R_reads' HO7.out).2.2
              rw [hxo] at HC7
              have hxl : (out.map (cgx a0 a1 L Af cf)).length = out.length := List.length_map _
              have hxl2 : xo.length = out.length := by rw [hxo, hxl]
              obtain ⟨ad2, e2, g0, g1, g2⟩ := raw_at HC7 jp (by omega) (by omega) hxl
              cases e2
              obtain ⟨p, hp⟩ : ∃ p, out.getD jp.toNat 0 = p := ⟨_, rfl⟩
              rw [hp] at g2
              have HP : Aside0 (out.getD (j - 1) 0 = p) := ⟨by rw [← hp]; congr 1; omega⟩
              have hpn : p < n := by
                have h1 := HV.out.2.2
                have hm : p ∈ out := by
                  rw [← hp, List.getD_eq_getElem?_getD, List.getElem?_eq_getElem (by omega)]
                  exact List.getElem_mem _
                have h2 : (srtF lt 0 out ((List.range n).drop i)).Perm (out ++ (List.range n).drop i) := srtF_perm lt 0 _ _
                rw [h1] at h2
                have h3 := (h2.symm.trans (idx_perm lt n)).mem_iff.1 (List.mem_append_left _ hm)
                exact List.mem_range.1 h3
              have HAP := HROWS.out p hpn
              have HTP : Aside0 ((L.getD p []).length ≤ 1000) := ⟨by
                rw [List.getD_eq_getElem?_getD]
                cases hx : L[p]? with
                | none => simp
                | some t => exact HTL.out t (List.mem_of_getElem? hx)⟩
              generalize Af p = Ap at g2 HAP
              generalize cf p = cp at g2 HAP
              have hltp := HLT.out i p
              rw [HGI.out.2.1] at hltp
              obtain ⟨tp, htp⟩ : ∃ tp, L.getD p [] = tp := ⟨_, rfl⟩
              rw [htp] at g2 HAP hltp HTP
              obtain ⟨np, hnp⟩ : ∃ np, tp.length = np := ⟨_, rfl⟩
              have q1 := eq_true (show 0 ≤ jp by omega)
              have q2 := eq_true (show jp < (xo.length : Int) by omega)
              have hBr := HB6.out.trans (HB7.out.mono HB6.out.size)
              have hRi := Kd.R_below HRI.out hBr
              have hRp := Kd.R_below HAP hBr
              obtain ⟨kc, hkc⟩ := ev_at (cuFirst_ev ti tp a0 a1 a0 a1 (by have := HTI.out; omega) (by have := HTP.out; omega))
              have HCL : Aside0 (∀ q : Gr wr, Calls Try.prog 16 #[.agg #[.int .i64 a0, .int .i64 a1, .slice Ai ni ci], .agg #[.int .i64 a0, .int .i64 a1, .slice Ap np cp]] q.W fun e w' => e = .returned (.bool (lt i p)) ∧ Below q.W.heap.size q.W w') := ⟨fun q => by
                have hRj := hRi
                rw [← HGI.out.2.2] at hRj
                have h1 := spec_cuFirst.calls kc a0 a1 Ai ci ti a0 a1 Ap cp tp (lexB ti tp) q.W (Kd.R_reads' (Kd.R_below hRj q.h)).2.2 (Kd.R_reads' hRj).2.1 (Kd.R_reads' (Kd.R_below hRp q.h)).2.2 (Kd.R_reads' hRp).2.1 hkc
                rw [HGI.out.2.2, hnp, ← hltp] at h1
                exact h1⟩
              rw [hnp] at g2
              have HBV : Aside0 (if lt i p = true then 0 < j ∧ insK lt 0 i out j = insK lt 0 i out (j - 1) else insK lt 0 i out j = j) := ⟨by
                have e : insK lt 0 i out j = if lt i p = true then insK lt 0 i out (j - 1) else j := by
                  obtain ⟨j', rfl⟩ : ∃ j', j = j' + 1 := ⟨j - 1, by omega⟩
                  have := HP.out
                  rw [Nat.add_sub_cancel] at this
                  rw [insK, this, Nat.add_sub_cancel]
                rw [e]
                split
                · exact ⟨hz, rfl⟩
                · rfl⟩
              clear hltp hBr hRi hRp hkc HAP htp hnp HC7 hxl hxl2 hxo hpn
              generalize lt i p = b at HCL HBV
              have l1 := blk_lt HX7.out
              have l2 := World.block_lt_of_cell? wr _ g0
              have x0 := fun p => cell_gr (p := p) l1 ((blk_cell HX7.out 0).trans rfl)
              have x1 := fun p => cell_gr (p := p) l1 ((blk_cell HX7.out 1).trans rfl)
              have x2 := fun p => cell_gr (p := p) l1 ((blk_cell HX7.out 2).trans rfl)
              have x3 := fun p => cell_gr (p := p) l2 g0
              have x4 := fun p => cell_gr (p := p) (World.block_lt_of_cell? wr _ g1) g1
              have x5 := fun p => cell_gr (p := p) (World.block_lt_of_cell? wr _ g2) g2
              clear hj1 hjp hp g0 g1 g2 l1 l2
              refine wp_region_gr (by kernel_rfl) (by kernel_rfl) ?_
              repeat (go_big_quiet_step (first | (go_at_call 16; refine Calls.gr_of (HCL.out _))))
              refine wpQuiet_nil ?_
              intro W2 hw'
              obtain ⟨⟨V2, hB2⟩, hw''⟩ := hw'
              replace hw'' : W2 = V2 := hw''
              subst hw''
              try go_wp2_with fail
              go_meet
              case rel => exact ⟨b, rfl, HBV, ⟨hB2⟩⟩
          case rest =>
            obtain ⟨b, rfl, HBV, HB8⟩ := hcut
            have HB9 := Aside0.mk (HB7.out.trans (HB8.out.mono HB7.out.size))
            cases b with
            | true =>
              have hd := HBV.out
              rw [if_pos rfl] at hd
              have HD := Aside0.mk hd
              have hwj := HJP.out.2
              clear hd
              go_wp2_with fail
              go_roundg (j - 1)
              case measure => have h1 := HD.out.1; have h2 := HJ.out.2.1; omega
              case rel => exact ⟨j - 1, jp, by have := HJ.out.1; omega, by omega, by have h1 := HD.out.1; have h2 := HJ.out.2.2; have h3 := HJP.out.1; omega, by first | rfl | rw [hwj], ⟨HV2.out.trans HD.out.2⟩, HB9⟩
            | false =>
              have hd := HBV.out
              rw [if_neg (by decide)] at hd
              have HD : Aside0 (insK lt 0 i out out.length = j) := ⟨HV2.out.trans hd⟩
              clear hd HBV HJP HV2 HB8 HO7 HX7 HB7
              go_upto_region 9 with (fail)
              obtain ⟨w5, rfl⟩ : ∃ w5 : World, w5 = wc := ⟨_, rfl⟩
              have HO8 := Aside0.mk (Kd.R_below HO6.out HB9.out)
              have HX8 := Aside0.mk (blk_below HX6.out HB9.out)
              have HJI : Aside0 (0 ≤ ji ∧ ji ≤ xo.length ∧ ji.toNat = j) := ⟨by have h1 := HJ.out.1; have h2 := HJ.out.2.2; omega⟩
              obtain ⟨i0, hi0, _, hsz, _⟩ := info_parts info29
              have hroom : xo.length ≤ c1 := (Kd.R_reads' HO8.out).2.1
              have hcutt := cut_to (P := Try.prog) 25 29 .i64 Try.underlying25 hi0 A1 xo.length c1 ji HJI.out.1 HJI.out.2.1 hroom
              have hcutf := cut_from (P := Try.prog) 25 29 .i64 Try.underlying25 hi0 3 hsz A1 xo.length c1 ji HJI.out.1 HJI.out.2.1
              have HTK := Aside0.mk (Kd.C_take (m := ji.toNat) (Kd.R_reads' HO8.out).2.2 (by have := HJI.out; omega))
              have hdr : Kd.C (Kd.raw 3) w5 (if c1 = ji.toNat then A1 else A1.map (·.add (ji.toNat * 3))) (xo.drop ji.toNat).length (xo.drop ji.toNat) := Kd.C_drop (m := ji.toNat) (c := c1) (Kd.R_reads' HO8.out).2.2 (by have := HJI.out; omega) hroom
              have hl1 : (xo.take ji.toNat).length = ji.toNat := by rw [List.length_take]; have := HJI.out; omega
              have hl2 : (xo.drop ji.toNat).length = xo.length - ji.toNat := List.length_drop
              rw [← hl1] at hcutt
              obtain ⟨AD, hAD⟩ : ∃ AD, (if c1 = ji.toNat then A1 else A1.map (·.add (ji.toNat * 3))) = AD := ⟨_, rfl⟩
              obtain ⟨cD, hcD⟩ : ∃ cD, c1 - ji.toNat = cD := ⟨_, rfl⟩
              rw [hAD] at hdr
              rw [hAD, hcD, ← hl2] at hcutf
              have HOL : Aside0 (xo.length ≤ 4294967296) := ⟨by have h1 := HV.out.2.1; have h2 := HI.out.1; have h3 := HN.out.2; omega⟩
              obtain ⟨sq, hsq⟩ : ∃ sq, xo.take ji.toNat = sq := ⟨_, rfl⟩
              obtain ⟨dq, hdq⟩ : ∃ dq, xo.drop ji.toNat = dq := ⟨_, rfl⟩
              have HSQ : Aside0 (sq.length ≤ 4294967296) := ⟨by rw [← hsq, List.length_take]; have := HOL.out; omega⟩
              have HDQ : Aside0 (dq.length ≤ 4294967296) := ⟨by rw [← hdq, List.length_drop]; have := HOL.out; omega⟩
              have HINS : Aside0 ((insG lt 0 i out).map (cgx a0 a1 L Af cf) = sq ++ [[.int .i64 a0, .int .i64 a1, .slice Ai ni ci]] ++ dq) := ⟨by
                unfold insG
                rw [HD.out, ← hsq, ← hdq, HJI.out.2.2, List.map_append, List.map_cons, List.map_take, List.map_drop, HGI.out.1, ← HV.out.1]; simp⟩
              have HSC5 := HTK
              rw [hsq] at hcutt HSC5
              rw [hdq] at hcutf hdr
              have HDC5 := Aside0.mk hdr
              have HP6 : Aside0 (∀ W, Below w5.heap.size w5 W → W.cell? ⟨gb, 0, none⟩ = some (.int .i64 a0) ∧ W.cell? ⟨gb, 1, none⟩ = some (.int .i64 a1) ∧ W.cell? ⟨gb, 2, none⟩ = some (.slice Ai ni ci)) := ⟨fun W hW => ⟨(blk_cell (blk_below HX8.out hW) 0).trans rfl, (blk_cell (blk_below HX8.out hW) 1).trans rfl, (blk_cell (blk_below HX8.out hW) 2).trans rfl⟩⟩
              have HB10 := Aside0.mk (HB6.out.trans (HB9.out.mono HB6.out.size))
              clear HTK hdr hl1 hl2 hsq hdq hAD hcD hi0 hsz hroom
              have q3 := eq_true HJI.out.1
              have q4 := eq_true HJI.out.2.1
              go_cut [10] (fun v7 wc => Aside0 ((Kd.raw 3).R 29 wc w5.heap.size (fun _ => True) v7 (sq ++ [[.int .i64 a0, .int .i64 a1, .slice Ai ni ci]])) ∧ Aside0 (Below w5.heap.size w5 wc))
              case first => as_aux_lemma =>
                obtain ⟨p50, p51, p52⟩ := HP6.out w5 (Below.refl _ _)
                obtain ⟨p5a, p5b, p5c⟩ := HP6.out (w5.alloc (.cells #[] 29)) (below_alloc (Below.refl _ _) _)
                go_region_law (first | (refine Kd.R_append_rows_step (Kd.raw 3) (w0 := w5) w5.heap.size (by simp [Region.wanted]) (.tmp 40) (.tmp 43) 25 29 (.agg #[.int .i64 0, .int .i64 0, .slice none 0 0]) 40 rfl Try.underlying25 info29 rfl (by decide) (by omega) (.slice (some ⟨w5.heap.size, 0, none⟩) 0 0) [] sq _ _ _ (fun _ => True) (fun _ => False) rfl rfl ?aO ?aR (fun _ _ h => h) (fun _ h => h.elim) (fun _ _ => trivial) ?aB ?aS ?aL ?_; (case aO => exact (by first | exact R_emptycr _ _ (by simp) | exact Kd.R_drew (R_emptycr _ _ (by simp)) | exact Kd.R_drew (Kd.R_alloc (R_emptycr _ _ (by simp)) _) | exact Kd.R_alloc (R_emptycr _ _ (by simp)) _)); (case aR => exact (show Kd.C (Kd.raw 3) _ A1 sq.length sq from by (with_reducible repeat (first | refine Kd.C_alloc ?_ _ | refine Kd.C_drew ?_)); exact HSC5.out)); (case aB => exact (by repeat (first | exact Below.refl _ _ | apply below_alloc | apply below_drew))); (case aS => exact (by simp; try omega)); (case aL => exact (by have := HSQ.out; simp; omega)); intro v118 w6 ho hb hg hat; obtain ⟨A6, n6, c6, e6⟩ := R_slcr ho; subst e6; rw [List.nil_append] at ho; have HR6 := Aside0.mk ho; have HB6 := Aside0.mk hb; obtain ⟨p60, p61, p62⟩ := HP6.out _ hb; (first | (have hq6 := blk_grown (w1 := w6) (heap_alloc_new (w5.drew.alloc (.cells #[] 29)) (.cells #[.int .i64 a0, .int .i64 a1, .slice Ai ni ci] 29)) hg (by first | (simp [Value.ownBlock]; done) | (intro h_; injection h_ with h_; omega))) | skip); clear ho hb hg hat) | (refine Kd.R_append_step (Kd.raw 3) (w0 := w5) w5.heap.size (by simp [Region.wanted]) (.tmp 44) (.tmp 46) 25 29 (.agg #[.int .i64 0, .int .i64 0, .slice none 0 0]) 40 rfl Try.underlying25 info29 rfl (by decide) (by omega) _ sq [.int .i64 a0, .int .i64 a1, .slice Ai ni ci] [.int .i64 a0, .int .i64 a1, .slice Ai ni ci] (fun _ => True) (fun _ => False) rfl rfl (raw_M _ _ _ _ _ _ _ _) (fun _ h => h.elim) (fun _ _ => trivial) HR6.out HB6.out HB6.out.size ?aL ?_; (case aL => exact (by have := HSQ.out; omega)); intro v127 w7 ho hb hg hat; obtain ⟨A7, n7, c7, e7⟩ := R_slcr ho; subst e7; have HR7 := Aside0.mk ho; have HB7 := Aside0.mk hb; clear ho hb hg hat) | (refine Kd.R_append_rows_step (Kd.raw 3) (w0 := w5) w5.heap.size (by simp [Region.wanted]) (.tmp 44) (.tmp 46) 25 29 (.agg #[.int .i64 0, .int .i64 0, .slice none 0 0]) 40 rfl Try.underlying25 info29 rfl (by decide) (by omega) _ sq [[.int .i64 a0, .int .i64 a1, .slice Ai ni ci]] _ _ _ (fun _ => True) (fun _ => False) rfl rfl HR6.out (show Kd.C (Kd.raw 3) w6 _ 1 [[.int .i64 a0, .int .i64 a1, .slice Ai ni ci]] from C_of_blkcr a0 a1 Ai ni ci (by first | exact hq6 | simpa using hq6)) (fun _ _ h => h) (fun _ h => h.elim) (fun _ _ => trivial) HB6.out HB6.out.size ?aL ?_; (case aL => exact (by have := HSQ.out; omega)); intro v127 w7 ho hb hg hat; obtain ⟨A7, n7, c7, e7⟩ := R_slcr ho; subst e7; have HR7 := Aside0.mk ho; have HB7 := Aside0.mk hb; clear ho hb hg hat) | (refine Kd.R_append_rows_step (Kd.raw 3) (w0 := w5) w5.heap.size (by simp [Region.wanted]) (.tmp 40) (.tmp 43) 25 29 (.agg #[.int .i64 0, .int .i64 0, .slice none 0 0]) 40 rfl Try.underlying25 info29 rfl (by decide) (by omega) (.slice (some ⟨w5.heap.size + 1, 0, none⟩) 0 0) [] sq _ _ _ (fun _ => True) (fun _ => False) rfl rfl ?aO ?aR (fun _ _ h => h) (fun _ h => h.elim) (fun _ _ => trivial) ?aB ?aS ?aL ?_; (case aO => exact (by have h := R_emptycr (w5.alloc (.cells #[.int .i64 a0, .int .i64 a1, .slice Ai ni ci] 29)) w5.heap.size (below_alloc (Below.refl _ _) _).size; rw [show (w5.alloc (.cells #[.int .i64 a0, .int .i64 a1, .slice Ai ni ci] 29)).heap.size = w5.heap.size + 1 from by simp] at h; first | exact Kd.R_drew h | exact h)); (case aR => exact (show Kd.C (Kd.raw 3) _ A1 sq.length sq from by (with_reducible repeat (first | refine Kd.C_alloc ?_ _ | refine Kd.C_drew ?_)); exact HSC5.out)); (case aB => exact (by repeat (first | exact Below.refl _ _ | apply below_alloc | apply below_drew))); (case aS => exact (by simp; try omega)); (case aL => exact (by have := HSQ.out; simp; omega)); intro v118 w6 ho hb hg hat; obtain ⟨A6, n6, c6, e6⟩ := R_slcr ho; subst e6; rw [List.nil_append] at ho; have HR6 := Aside0.mk ho; have HB6 := Aside0.mk hb; obtain ⟨p60, p61, p62⟩ := HP6.out _ hb; have hq6 := blk_grown (w1 := w6) (blk_alloc (heap_alloc_new w5.drew (.cells #[.int .i64 a0, .int .i64 a1, .slice Ai ni ci] 29)) _) hg (by first | (simp [Value.ownBlock]; done) | (intro h_; injection h_ with h_; omega)); clear ho hb hg hat))
                all_goals
                  go_wp2_with fail
                  go_meet
                  case rel => exact ⟨HR7, HB7⟩
              case rest =>
                obtain ⟨HR7, HB7⟩ := hcut
                obtain ⟨A7, n7, c7, e7⟩ := R_slcr HR7.out
                subst e7
                have HD7 := Aside0.mk (Kd.C_below HDC5.out HB7.out)
                have hw3 : wrap64 (xi + 1) = ((i + 1 : Nat) : Int) := by
                  have h1 := HI.out
                  have h2 := HN.out.2
                  rw [w64 (by omega) (by omega)]; omega
                have HNX : Aside0 (sq ++ [([.int .i64 a0, .int .i64 a1, .slice Ai ni ci] : List Value)] ++ dq = (insG lt 0 i out).map (cgx a0 a1 L Af cf) ∧ (sq ++ [([.int .i64 a0, .int .i64 a1, .slice Ai ni ci] : List Value)] ++ dq).length = i + 1 ∧ srtF lt 0 (insG lt 0 i out) ((List.range n).drop (i + 1)) = srtF lt 0 [] (List.range n)) := ⟨by
                  have h1 := HV.out
                  refine ⟨HINS.out.symm, by rw [← HINS.out, List.length_map, insG_len, ← h1.2.1, h1.1, List.length_map], ?_⟩
                  rw [← h1.2.2, srtI_drop _ _ _ _ HI.out.2.2.2]⟩
                go_wp2_with (first | ((with_reducible refine gate_builtin (b := .append) (xs := #[.tmp 48, .tmp 51]) rfl ?_); at_builtin; refine Kd.R_append_rows (Kd.raw 3) (w0 := w5) w5.heap.size rfl (.tmp 48) (.tmp 51) 25 29 (.agg #[(.int .i64 0), (.int .i64 0), (.slice none 0 0)]) 40 rfl Try.underlying25 info29 rfl (by decide) (by omega) _ (sq ++ [([.int .i64 a0, .int .i64 a1, .slice Ai ni ci] : List Value)]) dq _ _ _ (fun _ => True) (fun _ => False) rfl rfl HR7.out HD7.out (fun _ _ h => h) (fun _ h => h.elim) (fun _ _ => trivial) HB7.out HB7.out.size (by have h1 := HSQ.out; have h2 := HDQ.out; rw [List.length_append, List.length_singleton]; omega) ?_; intro v41 w6 ho hb hg hat; have HO9 := Aside0.mk ho; have HB11 := Aside0.mk hb; clear ho hb hg hat))
                go_roundg (n - (i + 1))
                case measure => have := HI.out; omega
                case rel => exact ⟨i + 1, _, insG lt 0 i out, _, by have := HI.out; omega, Nat.le_refl _, rfl, by first | rfl | rw [hw3], HNX, ⟨Kd.R_lower HO9.out HB10.out.size⟩, ⟨HB10.out.trans (HB11.out.mono HB10.out.size)⟩⟩
      · have b1 : decide (xi < (n : Int)) = false := decide_eq_false (by omega)
        obtain rfl : i = n := by omega
        have hE : out = srtF lt 0 [] (List.range i) := by
          have e2 := HV.out.2.2
          rw [List.drop_of_length_le (by simp)] at e2
          exact e2
        have HE := Aside0.mk hE
        have hof := HO.out
        rw [HV.out.1] at hof
        have HOF := Aside0.mk hof
        clear hof
        clear hE
        go_wp2_with fail
        go_ret
        have hp := idx_perm lt i
        rw [← HE.out] at hp
        refine ⟨_, rfl, ?_, HBW.out.trans (HB.out.mono HBW.out.size)⟩
        have hS := S_of_raw (d := k29) (e := 29) (base := w.heap.size) (ok := fun _ => True) (x := fun j => (⟨a0, a1, L.getD j []⟩ : Ct)) (fun k => if k < w1.heap.size then f k else i) (Kd.R_lower HOF.out HBW.out.size) (fun j hj => ?_) (hp.nodup_iff.2 List.nodup_range) (fun _ _ => trivial) (fun k hk hmem => ?_)
        · rw [HE.out, HRES.out] at hS; exact hS
        · have hjn : j < i := List.mem_range.1 (hp.mem_iff.1 hj)
          have h1 := HROWS.out j hjn
          exact k29_mkM _ _ _ (⟨a0, a1, L.getD j []⟩ : Ct) (Kd.R_mono (Kd.R_below (Kd.R_bound h1) HB.out) (fun k hk => ⟨trivial, by rw [if_pos hk.2.2.1]; exact hk.1.2⟩))
        · have h1 := Kd.R_base HOF.out k hk
          rw [if_neg (by omega)] at hmem
          have := List.mem_range.1 (hp.mem_iff.1 hmem)
          omega
  · rw [if_neg hr] at h; cases h
end Go.Proofs.Ythmcdiekgfgpdaa.P

namespace Go.Proofs.Ythmcdiekgfgpdaa.P
open Go.RowKit Go.Proofs.YthmcdiekgfgpdaaW.PrintWords Go.Proofs.YthmcdiekgfgpdaaW.PrintLast Go.Proofs.YthmcdiekgfgpdaaW.PrintMore
attribute [local go_sem] max2_int min2_int max_two min_two max_three min_three max_four min_four
set_option linter.unusedVariables false
set_option linter.unusedSimpArgs false
def spec_l1Num.f : Nat → Int → Option (ByteArray)
  | 0, _ => none
  | k + 1, a0 => if a0 < 10 then (some (strOfNums (([(wrap64 (48 + a0)) % 256] : List Int)))) else ((spec_l1Num.f k (wrap64 (Int.tdiv a0 10))).bind fun t104 => ((some (([(wrap64 (48 + (Int.tmod a0 10))) % 256] : List Int) : List Int)).bind fun y105 => (if t104.size + (strOfNums y105).size ≤ 9223372036854775807 then (some (t104 ++ (strOfNums y105))) else (none))))
def spec_l1Num.T3 : Bool × List (List Nat × List Nat) := (true, [([], []), ([0], [0]), ([1], [1]), ([], []), ([3], [3]), ([4], [4]), ([5], [5]), ([6], [6]), ([7], [7]), ([2, 8], [2, 8]), ([9, 2, 0, 1, 2, 3, 4, 5, 6, 7, 8, 9], [9])])
def spec_l1Num.B3 : List Nat := [0, 1, 3, 0, 8, 24, 56, 120, 248, 511, 1023]
theorem spec_l1Num.tab3 : rtab .any (opsOf Try.f17 3) = spec_l1Num.T3 := by kernel_rfl
theorem spec_l1Num.bits3 : waitsOk spec_l1Num.T3.2 spec_l1Num.B3 = true := by kernel_rfl
set_option maxHeartbeats 8000000 in
set_option maxRecDepth 100000 in
theorem spec_l1Num.calls (k : Nat) : ∀ (a0 : Int) (r : ByteArray) (w : World) (h : spec_l1Num.f k a0 = some r),
    Calls Try.prog 17 #[.int .i64 a0] w fun e w' => e = .returned (.string r) ∧ Below w.heap.size w w' := by
  induction k using Nat.strongRecOn with
  | _ k ih =>
  intro a0 r w h
  cases k with
  | zero => exact absurd h (by simp [spec_l1Num.f])
  | succ k =>
  simp only [spec_l1Num.f] at h
  have HB := Aside0.mk (Below.refl w.heap.size w)
  have H : (if a0 < 10 then (some (strOfNums (([(wrap64 (48 + a0)) % 256] : List Int)))) else ((spec_l1Num.f k (wrap64 (Int.tdiv a0 10))).bind fun t104 => ((some (([(wrap64 (48 + (Int.tmod a0 10))) % 256] : List Int) : List Int)).bind fun y105 => (if t104.size + (strOfNums y105).size ≤ 9223372036854775807 then (some (t104 ++ (strOfNums y105))) else (none))))) = some r := h
  clear h
  by_cases c2 : a0 < 10
  · rw [if_pos c2] at H
    have c2b0 : decide (a0 < 10) = true := decide_eq_true c2
    clear c2
    obtain ⟨y101, hy101⟩ : ∃ y_ : List Int, y_ = (([(wrap64 (48 + a0)) % 256] : List Int)) := ⟨_, rfl⟩
    replace H : (some (strOfNums y101)) = some r := by first | (rw [hy101]; with_reducible exact H) | (have H2_ := (Option.bind_some _ _).symm.trans H; rw [hy101]; with_reducible exact H2_) | (have H2_ := (Option.bind_some _ _).symm.trans H; with_reducible exact H2_) | with_reducible exact H | (rw [hy101]; exact H) | exact H
    have Ny101 := Aside0.mk hy101
    clear hy101
    obtain rfl := Option.some.inj H
    go_enter Try.func17, Try.ntmps17
    go_wp2_with (first | ((with_reducible refine gate_dst (N := 8) rfl ?_); refine Kd.R_lit (Kd.int .u8) _ 5 ?hg (N := 8) ?hd (xs := ([(wrap64 (48 + a0)) % 256] : List Int)) (inner := [.int .u8 ((wrap64 (48 + a0)) % 256)]) (ok := fun _ => True) (okp := fun _ => True) ?hr ?hp (fun _ hk => hk) trivial (Below.refl _ _) (Nat.le_refl _) (by simp) ?_; (case hd => rfl); (case hg => rfl); (case hr => first | (go_simp; done) | (go_simp; rfl)); (case hp => exact (Reps.one (show Kd.M (Kd.int .u8) _ _ _ ((wrap64 (48 + a0)) % 256) [.int .u8 ((wrap64 (48 + a0)) % 256)] from rfl) (Reps.none _ _))); intro v102 w3 ho4 hb hg_ hnew_; clear hg_ hnew_; (first | rw [← Ny101.out] at ho4 | (simp only [Int.reduceToNat] at ho4; rw [← Ny101.out] at ho4)); have n0_ := Aside0.mk (Kd.R_lower ho4 (below_size (by repeat (first | (with_reducible first | exact HB.out | apply below_alloc | apply pw_below_drewN | apply below_drew1) | exact HB.out)))); have n1_ := Aside0.mk (below_step (by repeat (first | (with_reducible first | exact HB.out | apply below_alloc | apply pw_below_drewN | apply below_drew1) | exact HB.out)) hb); clear HB; have HO103 := n0_; have HB := n1_; clear n0_ n1_; clear hb ho4; have hcv5 := own_string (P := Try.prog) Try.underlying56 Try.underlying5 Try.underlying9 (Kd.own_of_R HO103.out)))
    go_ret
    exact ⟨by first | rfl | (simp [errW_none, errW_some] <;> rfl) | (simp [*, errW_none, errW_some] <;> rfl), by repeat (first | (with_reducible first | exact HB.out | apply below_alloc | apply pw_below_drewN | apply below_drew1) | exact HB.out)⟩
  · rw [if_neg c2] at H
    have c2b0 : decide (a0 < 10) = false := decide_eq_false c2
    clear c2
    replace H := Option.bind_eq_some_iff.mp H
    obtain ⟨t104, A60, H⟩ := H
    replace H : ((some (([(wrap64 (48 + (Int.tmod a0 10))) % 256] : List Int) : List Int)).bind fun y105 => (if t104.size + (strOfNums y105).size ≤ 9223372036854775807 then (some (t104 ++ (strOfNums y105))) else (none))) = some r := H
    have A6 := Aside0.mk A60
    clear A60
    obtain ⟨y105, hy105⟩ : ∃ y_ : List Int, y_ = (([(wrap64 (48 + (Int.tmod a0 10))) % 256] : List Int)) := ⟨_, rfl⟩
    replace H : (if t104.size + (strOfNums y105).size ≤ 9223372036854775807 then (some (t104 ++ (strOfNums y105))) else (none)) = some r := by first | (rw [hy105]; with_reducible exact H) | (have H2_ := (Option.bind_some _ _).symm.trans H; rw [hy105]; with_reducible exact H2_) | (have H2_ := (Option.bind_some _ _).symm.trans H; with_reducible exact H2_) | with_reducible exact H | (rw [hy105]; exact H) | exact H
    have Ny105 := Aside0.mk hy105
    clear hy105
    by_cases c7 : t104.size + (strOfNums y105).size ≤ 9223372036854775807
    · rw [if_pos c7] at H
      have c7b0 := eq_true c7
      have c7b1 : decide (t104.size + (strOfNums y105).size ≤ 9223372036854775807) = true := decide_eq_true c7
      try have c7b2 : (9223372036854775807 < t104.size + (strOfNums y105).size) = False := eq_false (Nat.not_lt.2 c7)
      obtain rfl := Option.some.inj H
      go_enter Try.func17, Try.ntmps17
      try go_wp2
      have n0_ := Aside0.mk (below_drew1 HB.out)
      clear HB
      have HB := n0_
      clear n0_
      refine start_ (n := 11) (S := fun w' => True) (ds := []) #[false, false, false, false, false, false, false, false, false, false, false] (by kernel_rfl) rfl rfl trivial (fun hHeld => ?_); refine with_tabW spec_l1Num.tab3 spec_l1Num.bits3 (fun HT_ HW_ => ?_)
      generalize w.drew = w8 at HB hHeld ⊢
      refine pure_ (i := 0) (N := some 10) (v := ?_) (a' := ?_) #[true, false, false, false, false, false, false, false, false, false, false] rfl rfl (any_of HT_.out (by kernel_rfl)) (fun _ _ _ h => h) (Or.inl ⟨by rfl, ?_⟩) ?_ ?_
      rotate_left
      · intro w'
        go_simp
        with_reducible rfl
      rotate_left
      · simp only [Act.put, List.setIfInBounds_toArray, List.set_cons_zero, List.set_cons_succ, i64_w, i32_w]
        rfl
      refine pure_ (i := 1) (N := some 11) (v := ?_) (a' := ?_) #[true, true, false, false, false, false, false, false, false, false, false] rfl rfl (any_of HT_.out (by kernel_rfl)) (fun _ _ _ h => h) (Or.inl ⟨by rfl, ?_⟩) ?_ ?_
      rotate_left
      · intro w'
        go_simp
        with_reducible rfl
      rotate_left
      · simp only [Act.put, List.setIfInBounds_toArray, List.set_cons_zero, List.set_cons_succ, i64_w, i32_w]
        rfl
      refine pure_ (i := 3) (N := some 13) (v := ?_) (a' := ?_) #[true, true, false, true, false, false, false, false, false, false, false] rfl rfl (any_of HT_.out (by kernel_rfl)) (fun _ _ _ h => h) (Or.inl ⟨by rfl, ?_⟩) ?_ ?_
      rotate_left
      · intro w'
        go_simp
        with_reducible rfl
      rotate_left
      · simp only [Act.put, List.setIfInBounds_toArray, List.set_cons_zero, List.set_cons_succ, i64_w, i32_w]
        rfl
      refine pure_ (i := 4) (N := some 14) (v := ?_) (a' := ?_) #[true, true, false, true, true, false, false, false, false, false, false] rfl rfl (any_of HT_.out (by kernel_rfl)) (fun _ _ _ h => h) (Or.inl ⟨by rfl, ?_⟩) ?_ ?_
      rotate_left
      · intro w'
        go_simp
        with_reducible rfl
      rotate_left
      · simp only [Act.put, List.setIfInBounds_toArray, List.set_cons_zero, List.set_cons_succ, i64_w, i32_w]
        rfl
      refine pure_ (i := 5) (N := some 15) (v := ?_) (a' := ?_) #[true, true, false, true, true, true, false, false, false, false, false] rfl rfl (any_of HT_.out (by kernel_rfl)) (fun _ _ _ h => h) (Or.inl ⟨by rfl, ?_⟩) ?_ ?_
      rotate_left
      · intro w'
        go_simp
        with_reducible rfl
      rotate_left
      · simp only [Act.put, List.setIfInBounds_toArray, List.set_cons_zero, List.set_cons_succ, i64_w, i32_w]
        rfl
      refine pure_ (i := 6) (N := some 16) (v := ?_) (a' := ?_) #[true, true, false, true, true, true, true, false, false, false, false] rfl rfl (any_of HT_.out (by kernel_rfl)) (fun _ _ _ h => h) (Or.inl ⟨by rfl, ?_⟩) ?_ ?_
      rotate_left
      · intro w'
        go_simp
        with_reducible rfl
      rotate_left
      · simp only [Act.put, List.setIfInBounds_toArray, List.set_cons_zero, List.set_cons_succ, i64_w, i32_w]
        rfl
      refine join_ (σ := Value) 2 #[true, true, true, true, true, true, true, true, true, false, false] (fun s_ => [(12, .string t104), (17, s_), (18, .string (strOfNums y105))]) (fun s_ w' => (Kd.R (Kd.int .u8) 5 w' w.heap.size (fun _ => True) s_ y105) ∧ (Below w.heap.size w w')) ?_ ?_
      rotate_left
      · intro hCont
        refine two_ (i := 2) (j := 7) (Ni := some 12) (Nj := some 17) #[true, true, true, true, true, true, true, false, false, false, false] #[true, true, false, true, true, true, true, true, false, false, false] rfl rfl rfl rfl (two_of HT_.out (by kernel_rfl)) (by decide) (by decide) (fun K hK => ?_) (fun K hK => ?_)
        · skip
          refine goes_ Try.func17 (by kernel_rfl) rfl #[.int .i64 (wrap64 (Int.tdiv a0 10))] (by rfl) rfl rfl (by (try simp only [List.map_toArray, List.map_cons, List.map_nil]); first | done | rfl | (simp only [List.length_drop, List.length_take]; rfl)) ?_
          with_reducible refine (ih k (by omega) (wrap64 (Int.tdiv a0 10)) t104 _ A6.out).mono ?_
          rintro e w9 ⟨rfl, hb⟩
          refine ⟨_, rfl, ?_⟩
          have n0_ := Aside0.mk (below_step (by repeat (first | (with_reducible first | exact HB.out | apply below_alloc | apply pw_below_drewN | apply below_drew1) | exact HB.out)) hb)
          clear HB
          have HB := n0_
          clear n0_
          (try clear hb)
          (try clear hb2)
          (try clear hk)
          (try clear hi)
          refine hK.out _ _ trivial (fun hHeld => ?_)
          clear hK K
          refine norm_ (a' := ?_) ?_ ?_
          rotate_left
          · show Act.put _ (some 12) _ = _
            simp only [Act.put, List.setIfInBounds_toArray, List.set_cons_zero, List.set_cons_succ, i64_w, i32_w]
            rfl
          refine one_ (i := 7) (N := some 17) #[true, true, true, true, true, true, true, true, false, false, false] rfl rfl (one_of HT_.out (by kernel_rfl)) (by decide) (fun K hK => ?_)
          refine Kd.R_lit_step (Kd.int .u8) _ 5 ?hg (N := 17) ?hd (xs := ([(wrap64 (48 + (Int.tmod a0 10))) % 256] : List Int)) (inner := [.int .u8 ((wrap64 (48 + (Int.tmod a0 10))) % 256)]) (ok := fun _ => True) (okp := fun _ => True) ?hr ?hp (fun _ hk => hk) trivial (Below.refl _ _) (Nat.le_refl _) (by simp) ?_; (case hd => rfl); (case hg => rfl); (case hr => first | (go_simp; done) | (go_simp; rfl)); (case hp => exact (Reps.one (show Kd.M (Kd.int .u8) _ _ _ ((wrap64 (48 + (Int.tmod a0 10))) % 256) [.int .u8 ((wrap64 (48 + (Int.tmod a0 10))) % 256)] from rfl) (Reps.none _ _)))
          intro v106 w10 ho11 hb hg_ hnew_
          clear hg_ hnew_
          (first | rw [← Ny105.out] at ho11 | (simp only [Int.reduceToNat] at ho11; rw [← Ny105.out] at ho11))
          have n0_ := Aside0.mk (Kd.R_lower ho11 (below_size (by repeat (first | (with_reducible first | exact HB.out | apply below_alloc | apply pw_below_drewN | apply below_drew1) | exact HB.out))))
          have n1_ := Aside0.mk (below_step (by repeat (first | (with_reducible first | exact HB.out | apply below_alloc | apply pw_below_drewN | apply below_drew1) | exact HB.out)) hb)
          clear HB
          have HO107 := n0_
          have HB := n1_
          clear n0_ n1_
          clear hb ho11
          refine hK.out _ _ trivial (fun hHeld => ?_)
          clear hK K
          refine norm_ (a' := ?_) ?_ ?_
          rotate_left
          · show Act.put _ (some 17) _ = _
            simp only [Act.put, List.setIfInBounds_toArray, List.set_cons_zero, List.set_cons_succ, i64_w, i32_w]
            rfl
          refine one_ (i := 8) (N := some 18) #[true, true, true, true, true, true, true, true, true, false, false] rfl rfl (one_of HT_.out (by kernel_rfl)) (by decide) (fun K hK => ?_)
          have hcv12 := own_string (P := Try.prog) Try.underlying56 Try.underlying5 Try.underlying9 (Kd.own_of_R HO107.out)
          refine value_ (w1 := ?_) (v := ?_) (by rfl) rfl ?_ ?_
          rotate_left 2
          · go_simp
            constructor
            · rfl
            · rfl
          clear hcv12
          refine hK.out _ _ trivial (fun hHeld => ?_)
          clear hK K
          refine norm_ (a' := ?_) ?_ ?_
          rotate_left
          · show Act.put _ (some 18) _ = _
            simp only [Act.put, List.setIfInBounds_toArray, List.set_cons_zero, List.set_cons_succ, i64_w, i32_w]
            rfl
          exact norm_ (by simp only [putAll, Act.put, List.setIfInBounds_toArray, List.set_cons_zero, List.set_cons_succ]) (hCont (v106) _ ⟨(by (with_reducible repeat (first | apply Kd.R_alloc | apply Kd.R_drewN | apply Kd.R_drew)); exact HO107.out), (by repeat (first | (with_reducible first | exact HB.out | apply below_alloc | apply pw_below_drewN | apply below_drew1) | exact HB.out))⟩)
        · skip
          refine Kd.R_lit_step (Kd.int .u8) _ 5 ?hg (N := 17) ?hd (xs := ([(wrap64 (48 + (Int.tmod a0 10))) % 256] : List Int)) (inner := [.int .u8 ((wrap64 (48 + (Int.tmod a0 10))) % 256)]) (ok := fun _ => True) (okp := fun _ => True) ?hr ?hp (fun _ hk => hk) trivial (Below.refl _ _) (Nat.le_refl _) (by simp) ?_; (case hd => rfl); (case hg => rfl); (case hr => first | (go_simp; done) | (go_simp; rfl)); (case hp => exact (Reps.one (show Kd.M (Kd.int .u8) _ _ _ ((wrap64 (48 + (Int.tmod a0 10))) % 256) [.int .u8 ((wrap64 (48 + (Int.tmod a0 10))) % 256)] from rfl) (Reps.none _ _)))
          intro v106 w9 ho10 hb hg_ hnew_
          clear hg_ hnew_
          (first | rw [← Ny105.out] at ho10 | (simp only [Int.reduceToNat] at ho10; rw [← Ny105.out] at ho10))
          have n0_ := Aside0.mk (Kd.R_lower ho10 (below_size (by repeat (first | (with_reducible first | exact HB.out | apply below_alloc | apply pw_below_drewN | apply below_drew1) | exact HB.out))))
          have n1_ := Aside0.mk (below_step (by repeat (first | (with_reducible first | exact HB.out | apply below_alloc | apply pw_below_drewN | apply below_drew1) | exact HB.out)) hb)
          clear HB
          have HO107 := n0_
          have HB := n1_
          clear n0_ n1_
          clear hb ho10
          refine hK.out _ _ trivial (fun hHeld => ?_)
          clear hK K
          refine norm_ (a' := ?_) ?_ ?_
          rotate_left
          · show Act.put _ (some 17) _ = _
            simp only [Act.put, List.setIfInBounds_toArray, List.set_cons_zero, List.set_cons_succ, i64_w, i32_w]
            rfl
          refine two_ (i := 2) (j := 8) (Ni := some 12) (Nj := some 18) #[true, true, true, true, true, true, true, true, false, false, false] #[true, true, false, true, true, true, true, true, true, false, false] rfl rfl rfl rfl (two_of HT_.out (by kernel_rfl)) (by decide) (by decide) (fun K hK => ?_) (fun K hK => ?_)
          · skip
            refine goes_ Try.func17 (by kernel_rfl) rfl #[.int .i64 (wrap64 (Int.tdiv a0 10))] (by rfl) rfl rfl (by (try simp only [List.map_toArray, List.map_cons, List.map_nil]); first | done | rfl | (simp only [List.length_drop, List.length_take]; rfl)) ?_
            with_reducible refine (ih k (by omega) (wrap64 (Int.tdiv a0 10)) t104 _ A6.out).mono ?_
            rintro e w11 ⟨rfl, hb⟩
            refine ⟨_, rfl, ?_⟩
            have n0_ := Aside0.mk (Kd.R_below (by (with_reducible repeat (first | apply Kd.R_alloc | apply Kd.R_drewN | apply Kd.R_drew)); exact HO107.out) hb)
            have n1_ := Aside0.mk (below_step (by repeat (first | (with_reducible first | exact HB.out | apply below_alloc | apply pw_below_drewN | apply below_drew1) | exact HB.out)) hb)
            clear HO107
            clear HB
            have HO107 := n0_
            have HB := n1_
            clear n0_ n1_
            (try clear hb)
            (try clear hb2)
            (try clear hk)
            (try clear hi)
            refine hK.out _ _ trivial (fun hHeld => ?_)
            clear hK K
            refine norm_ (a' := ?_) ?_ ?_
            rotate_left
            · show Act.put _ (some 12) _ = _
              simp only [Act.put, List.setIfInBounds_toArray, List.set_cons_zero, List.set_cons_succ, i64_w, i32_w]
              rfl
            refine one_ (i := 8) (N := some 18) #[true, true, true, true, true, true, true, true, true, false, false] rfl rfl (one_of HT_.out (by kernel_rfl)) (by decide) (fun K hK => ?_)
            have hcv12 := own_string (P := Try.prog) Try.underlying56 Try.underlying5 Try.underlying9 (Kd.own_of_R HO107.out)
            refine value_ (w1 := ?_) (v := ?_) (by rfl) rfl ?_ ?_
            rotate_left 2
            · go_simp
              constructor
              · rfl
              · rfl
            clear hcv12
            refine hK.out _ _ trivial (fun hHeld => ?_)
            clear hK K
            refine norm_ (a' := ?_) ?_ ?_
            rotate_left
            · show Act.put _ (some 18) _ = _
              simp only [Act.put, List.setIfInBounds_toArray, List.set_cons_zero, List.set_cons_succ, i64_w, i32_w]
              rfl
            exact norm_ (by simp only [putAll, Act.put, List.setIfInBounds_toArray, List.set_cons_zero, List.set_cons_succ]) (hCont (v106) _ ⟨(by (with_reducible repeat (first | apply Kd.R_alloc | apply Kd.R_drewN | apply Kd.R_drew)); exact HO107.out), (by repeat (first | (with_reducible first | exact HB.out | apply below_alloc | apply pw_below_drewN | apply below_drew1) | exact HB.out))⟩)
          · skip
            have hcv11 := own_string (P := Try.prog) Try.underlying56 Try.underlying5 Try.underlying9 (Kd.own_of_R HO107.out)
            refine value_ (w1 := ?_) (v := ?_) (by rfl) rfl ?_ ?_
            rotate_left 2
            · go_simp
              constructor
              · rfl
              · rfl
            clear hcv11
            refine hK.out _ _ trivial (fun hHeld => ?_)
            clear hK K
            refine norm_ (a' := ?_) ?_ ?_
            rotate_left
            · show Act.put _ (some 18) _ = _
              simp only [Act.put, List.setIfInBounds_toArray, List.set_cons_zero, List.set_cons_succ, i64_w, i32_w]
              rfl
            refine one_ (i := 2) (N := some 12) #[true, true, true, true, true, true, true, true, true, false, false] rfl rfl (one_of HT_.out (by kernel_rfl)) (by decide) (fun K hK => ?_)
            refine goes_ Try.func17 (by kernel_rfl) rfl #[.int .i64 (wrap64 (Int.tdiv a0 10))] (by rfl) rfl rfl (by (try simp only [List.map_toArray, List.map_cons, List.map_nil]); first | done | rfl | (simp only [List.length_drop, List.length_take]; rfl)) ?_
            with_reducible refine (ih k (by omega) (wrap64 (Int.tdiv a0 10)) t104 _ A6.out).mono ?_
            rintro e w12 ⟨rfl, hb⟩
            refine ⟨_, rfl, ?_⟩
            have n0_ := Aside0.mk (Kd.R_below (by (with_reducible repeat (first | apply Kd.R_alloc | apply Kd.R_drewN | apply Kd.R_drew)); exact HO107.out) hb)
            have n1_ := Aside0.mk (below_step (by repeat (first | (with_reducible first | exact HB.out | apply below_alloc | apply pw_below_drewN | apply below_drew1) | exact HB.out)) hb)
            clear HO107
            clear HB
            have HO107 := n0_
            have HB := n1_
            clear n0_ n1_
            (try clear hb)
            (try clear hb2)
            (try clear hk)
            (try clear hi)
            refine hK.out _ _ trivial (fun hHeld => ?_)
            clear hK K
            refine norm_ (a' := ?_) ?_ ?_
            rotate_left
            · show Act.put _ (some 12) _ = _
              simp only [Act.put, List.setIfInBounds_toArray, List.set_cons_zero, List.set_cons_succ, i64_w, i32_w]
              rfl
            exact norm_ (by simp only [putAll, Act.put, List.setIfInBounds_toArray, List.set_cons_zero, List.set_cons_succ]) (hCont (v106) _ ⟨(by (with_reducible repeat (first | apply Kd.R_alloc | apply Kd.R_drewN | apply Kd.R_drew)); exact HO107.out), (by repeat (first | (with_reducible first | exact HB.out | apply below_alloc | apply pw_below_drewN | apply below_drew1) | exact HB.out))⟩)
      rintro v106 w13 ⟨h0_, h1_⟩
      have n0_ : Aside0 (Kd.R (Kd.int .u8) 5 w13 w.heap.size (fun _ => True) v106 y105) := ⟨h0_⟩
      have n1_ : Aside0 (Below w.heap.size w w13) := ⟨h1_⟩
      clear HB
      clear h0_ h1_
      have HO107 := n0_
      have HB := n1_
      clear n0_ n1_
      have hHeld := trivial
      refine norm_ (a' := ?_) ?_ ?_
      rotate_left
      · simp only [putAll, Act.put, List.setIfInBounds_toArray, List.set_cons_zero, List.set_cons_succ]
        rfl
      refine pure_ (i := 9) (N := some 19) (v := ?_) (a' := ?_) #[true, true, true, true, true, true, true, true, true, true, false] rfl rfl (any_of HT_.out (by kernel_rfl)) (fun _ _ _ h => h) (Or.inl ⟨by rfl, ?_⟩) ?_ ?_
      rotate_left
      · intro w'
        go_simp
        with_reducible rfl
      rotate_left
      · simp only [Act.put, List.setIfInBounds_toArray, List.set_cons_zero, List.set_cons_succ, i64_w, i32_w]
        rfl
      refine pure_ (i := 10) (N := some 2) (v := ?_) (a' := ?_) #[true, true, true, true, true, true, true, true, true, true, true] rfl rfl (any_of HT_.out (by kernel_rfl)) (fun _ _ _ h => h) (Or.inl ⟨by rfl, ?_⟩) ?_ ?_
      rotate_left
      · intro w'
        go_simp
        with_reducible rfl
      rotate_left
      · simp only [Act.put, List.setIfInBounds_toArray, List.set_cons_zero, List.set_cons_succ, i64_w, i32_w]
        rfl
      refine done_ (done_of HT_.out (by kernel_rfl)) ?_
      try go_wp2
      go_ret
      exact ⟨by first | rfl | (simp [errW_none, errW_some] <;> rfl) | (simp [*, errW_none, errW_some] <;> rfl), by repeat (first | (with_reducible first | exact HB.out | apply below_alloc | apply pw_below_drewN | apply below_drew1) | exact HB.out)⟩
    · rw [if_neg c7] at H
      exact absurd H (by simp)
end Go.Proofs.Ythmcdiekgfgpdaa.P
