import Derived.Test.YtdfcljfajiihdaaMFnExactCountWithoutCrosswWords
import Derived.Test.YtdfcljfajiihdaaMFnExactCountWithoutCrosswLast
import Derived.Test.YtdfcljfajiihdaaMFnExactCountWithoutCrosswApart
import Derived.Test.YtdfcljfajiihdaaMFnExactCountWithoutCrosswFoot
import Derived.Test.YtdfcljfajiihdaaMFnExactCountWithoutCrosswKept
import Derived.Test.YtdfcljfajiihdaaMFnExactCountWithoutCrosswShare
import Derived.Test.YtdfcljfajiihdaaMFnExactCountWithoutCrosswN
import Derived.Test.YtdfcljfajiihdaaMFnExactCountWithoutCrosswEqStruct
import Derived.Test.YtdfcljfajiihdaaMFnExactCountWithoutCrosswRepsOne
import Derived.Test.YtdfcljfajiihdaaMFnExactCountWithoutCrosswInv
import Derived.Test.YtdfcljfajiihdaaMFnExactCountWithoutCrosswMore
import Derived.Test.YtdfcljfajiihdaaMFnExactCountWithoutCrossx0
import Derived.Test.YtdfcljfajiihdaaMFnExactCountWithoutCrossx1
import Derived.Shelf.Abstract
import Derived.StillTailTactics
import Derived.RegionTactic
import Derived.ChangeAlike
import Derived.BigRegion
namespace Go.Proofs.Ytdfcljfajiihdaa.P
open Go.RowKit Go.Proofs.YtdfcljfajiihdaaW.PrintWords Go.Proofs.YtdfcljfajiihdaaW.PrintLast Go.Proofs.YtdfcljfajiihdaaW.PrintMore
attribute [local go_sem] max2_int min2_int max_two min_two max_three min_three max_four min_four
set_option linter.unusedVariables false
set_option linter.unusedSimpArgs false
mutual
def impl_Cut_crosses.l0 : Nat → List (List Int) → List (S56) → Int → Int → Int → Int → List (S56) → Option ((List (List Int)))
  | 0, _, _, _, _, _, _, _ => none
  | k + 1, x3, x11, x12, x13, x102000, x102001, x102002 => if x13 < x12 then (if 0 ≤ x13 then (if x13 < (x11.length : Int) then (if ((rd_T56 x11 x13).f0) = 0 then (impl_Cut_crosses.j1 k x3 x11 x12 x13 true x102000 x102001 x102002 ((rd_T56 x11 x13).f0) ((rd_T56 x11 x13).f1) ((rd_T56 x11 x13).f2)) else (impl_Cut_crosses.j1 k x3 x11 x12 x13 (((rd_T56 x11 x13).f1) == 0) x102000 x102001 x102002 ((rd_T56 x11 x13).f0) ((rd_T56 x11 x13).f1) ((rd_T56 x11 x13).f2))) else (none)) else (none)) else (some x3)
def impl_Cut_crosses.j1 : Nat → List (List Int) → List (S56) → Int → Int → Bool → Int → Int → List (S56) → Int → Int → Int → Option ((List (List Int)))
  | 0, _, _, _, _, _, _, _, _, _, _, _ => none
  | k + 1, x3, x11, x12, x13, x24, x102000, x102001, x102002, x107000, x107001, x107002 => if x24 = true then (impl_Cut_crosses.l0 k x3 x11 x12 (wrap64 (x13 + 1)) x102000 x102001 x102002) else (impl_Cut_crosses.l1 k x3 0 x11 x12 x13 x102002 (x102002.length : Int) 0 x102000 x102001 x102002 x107000 x107001 x107002)
def impl_Cut_crosses.l1 : Nat → List (List Int) → Int → List (S56) → Int → Int → List (S56) → Int → Int → Int → Int → List (S56) → Int → Int → Int → Option ((List (List Int)))
  | 0, _, _, _, _, _, _, _, _, _, _, _, _, _, _ => none
  | k + 1, x3, x6, x11, x12, x13, x26, x27, x28, x102000, x102001, x102002, x107000, x107001, x107002 => if x28 < x27 then (if 0 ≤ x28 then (if x28 < (x26.length : Int) then (if ((rd_T56 x26 x28).f0) = x107000 then (if ((rd_T56 x26 x28).f1) = x107001 then ((impl_bit.f true).bind fun t109 => (impl_Cut_crosses.l1 k x3 (wrap64 (x6 + t109)) x11 x12 x13 x26 x27 (wrap64 (x28 + 1)) x102000 x102001 x102002 x107000 x107001 x107002)) else ((impl_bit.f ((wrap64 (((rd_T56 x26 x28).f1) + ((rd_T56 x26 x28).f2))) == x107001)).bind fun t110 => (impl_Cut_crosses.l1 k x3 (wrap64 (x6 + t110)) x11 x12 x13 x26 x27 (wrap64 (x28 + 1)) x102000 x102001 x102002 x107000 x107001 x107002))) else (if (wrap64 (((rd_T56 x26 x28).f0) + ((rd_T56 x26 x28).f2))) = x107000 then (if ((rd_T56 x26 x28).f1) = x107001 then ((impl_bit.f true).bind fun t111 => (impl_Cut_crosses.l1 k x3 (wrap64 (x6 + t111)) x11 x12 x13 x26 x27 (wrap64 (x28 + 1)) x102000 x102001 x102002 x107000 x107001 x107002)) else ((impl_bit.f ((wrap64 (((rd_T56 x26 x28).f1) + ((rd_T56 x26 x28).f2))) == x107001)).bind fun t112 => (impl_Cut_crosses.l1 k x3 (wrap64 (x6 + t112)) x11 x12 x13 x26 x27 (wrap64 (x28 + 1)) x102000 x102001 x102002 x107000 x107001 x107002))) else ((impl_bit.f false).bind fun t113 => (impl_Cut_crosses.l1 k x3 (wrap64 (x6 + t113)) x11 x12 x13 x26 x27 (wrap64 (x28 + 1)) x102000 x102001 x102002 x107000 x107001 x107002)))) else (none)) else (none)) else (if x6 = 4 then (if x3.length < 5864062014805 then (impl_Cut_crosses.l0 k (x3 ++ [(([x107000, x107001] : List Int))]) x11 x12 (wrap64 (x13 + 1)) x102000 x102001 x102002) else (none)) else (impl_Cut_crosses.l0 k x3 x11 x12 (wrap64 (x13 + 1)) x102000 x102001 x102002))
end
def impl_Cut_crosses.f (k : Nat) (a0_0 : Int) (a0_1 : Int) (l0_2 : List (S56)) : Option ((List (List Int))) := impl_Cut_crosses.l0 k (([] : List (List Int))) l0_2 (l0_2.length : Int) 0 a0_0 a0_1 l0_2
set_option maxHeartbeats 8000000 in
set_option maxRecDepth 100000 in
theorem impl_Cut_crosses.calls (k : Nat) (a0_0 : Int) (a0_1 : Int) (A0_2 : Option Addr) (c0_2 : Nat) (l0_2 : List (S56)) (r : List (List Int)) (w : World) (hr0_2 : Kd.C k56 w A0_2 l0_2.length l0_2) (hc0_2 : l0_2.length ≤ c0_2) (h : impl_Cut_crosses.f k a0_0 a0_1 l0_2 = some r) :
    Calls Try.prog 39 #[.agg #[.int .i64 a0_0, .int .i64 a0_1, .slice A0_2 l0_2.length c0_2]] w fun e w' => ∃ v0_ : Value, e = .returned (v0_) ∧ Kd.S (Kd.slice 3 (Kd.int .i64)) 22 w' w.heap.size (fun _ => True) v0_ r ∧ Below w.heap.size w w' := by
  have hu37 := Try.underlying37
  have hu56 := Try.underlying56
  have HR0_2 := Aside0.mk hr0_2
  have HC0_2 := Aside0.mk hc0_2
  clear hr0_2 hc0_2
  have HB := Aside0.mk (Below.refl w.heap.size w)
  have H : (impl_Cut_crosses.l0 k (([] : List (List Int))) l0_2 (l0_2.length : Int) 0 a0_0 a0_1 l0_2) = some r := h
  clear h
  obtain ⟨y102, hy102⟩ : ∃ y_ : List (List Int), y_ = (([] : List (List Int))) := ⟨_, rfl⟩
  replace H : (impl_Cut_crosses.l0 k y102 l0_2 (l0_2.length : Int) 0 a0_0 a0_1 l0_2) = some r := by first | (rw [hy102]; with_reducible exact H) | (have H2_ := (Option.bind_some _ _).symm.trans H; rw [hy102]; with_reducible exact H2_) | (have H2_ := (Option.bind_some _ _).symm.trans H; with_reducible exact H2_) | with_reducible exact H | (rw [hy102]; exact H) | exact H
  have Ny102 := Aside0.mk hy102
  clear hy102
  have H' := Aside0.mk H
  clear H
  go_enter Try.func39, Try.ntmps39
  go_wp2_with (first | ((with_reducible refine gate_dst (N := 1) rfl ?_); refine box_event ?hg (N := 1) ?hd (cs := #[.int .i64 a0_0, .int .i64 a0_1, .slice A0_2 l0_2.length c0_2]) (t := 37) ?hr ?_; (case hd => rfl); (case hg => rfl); (case hr => first | (go_simp; done) | (go_simp; rfl)); intro gb101 hg w2 hbox hb; have n0_ := Aside0.mk (below_step (by repeat (first | (with_reducible first | exact HB.out | apply below_alloc | apply pw_below_drewN | apply below_drew1) | exact HB.out)) hb); have n1_ := Aside0.mk (hbox); have n2_ := Aside0.mk ((by rw [hg]; exact (below_size (by repeat (first | (with_reducible first | exact HB.out | apply below_alloc | apply pw_below_drewN | apply below_drew1) | exact HB.out))) : w.heap.size ≤ gb101)); have n3_ := Aside0.mk ((by rw [hg]; exact (below_size (by repeat (first | (with_reducible first | exact HB.out | apply below_alloc | apply pw_below_drewN | apply below_drew1) | exact HB.out))) : w.heap.size ≤ gb101)); clear HB; have HB := n0_; have BK101 := n1_; have GW101 := n2_; have GE101 := n3_; clear n0_ n1_ n2_ n3_; clear hb hbox hg) | ((with_reducible refine gate_dst (N := 9) rfl ?_); refine Kd.S_lit (Kd.slice 3 (Kd.int .i64)) _ 22 ?hg (N := 9) ?hd (xs := ([] : List (List Int))) (inner := []) (ok := fun _ => True) (okp := fun _ => True) ?hr ?hp (fun _ hk => hk) trivial (Below.refl _ _) (Nat.le_refl _) (by simp) ?_; (case hd => rfl); (case hg => rfl); (case hr => first | (go_simp; done) | (go_simp; rfl)); (case hp => exact (Reps.none _ _)); intro v103 w3 ho4 hb hg_ hnew_; clear hg_ hnew_; (first | rw [← Ny102.out] at ho4 | (simp only [Int.reduceToNat] at ho4; rw [← Ny102.out] at ho4)); have n0_ := Aside0.mk (Kd.S_lower ho4 (below_size (by repeat (first | (with_reducible first | exact HB.out | apply below_alloc | apply pw_below_drewN | apply below_drew1 | refine below_set ?_ GE101.out) | exact HB.out)))); have n1_ := Aside0.mk (blk_below (g := gb101) (o := .cells #[.int .i64 a0_0, .int .i64 a0_1, .slice A0_2 l0_2.length c0_2] 37 (0, 0)) (by (with_reducible repeat (first | refine blk_drewN ?_ _ | refine blk_drew ?_ | refine blk_alloc ?_ _)); exact BK101.out) hb); have n2_ := Aside0.mk (below_step (by repeat (first | (with_reducible first | exact HB.out | apply below_alloc | apply pw_below_drewN | apply below_drew1 | refine below_set ?_ GE101.out) | exact HB.out)) hb); clear BK101; clear HB; have HO104 := n0_; have BK101 := n1_; have HB := n2_; clear n0_ n1_ n2_; clear hb ho4; have hcz5_0 : w3.cell? ⟨gb101, 0, none⟩ = some (.int .i64 a0_0) := (blk_cell BK101.out 0).trans rfl; have hcz5_1 : w3.cell? ⟨gb101, 1, none⟩ = some (.int .i64 a0_1) := (blk_cell BK101.out 1).trans rfl; have hcz5_2 : w3.cell? ⟨gb101, 2, none⟩ = some (.slice A0_2 l0_2.length c0_2) := (blk_cell BK101.out 2).trans rfl; have hfz5_0 := blk_frozen BK101.out 0; have hfz5_1 := blk_frozen BK101.out 1; have hfz5_2 := blk_frozen BK101.out 2))
  go_loopg [3, 13] k (fun kq v3 v13 w' => ∃ (x3_1 : List (List Int)) (x13_1 : Int), v13 = .int .i64 x13_1 ∧ Aside0 (impl_Cut_crosses.l0 kq x3_1 l0_2 (l0_2.length : Int) x13_1 a0_0 a0_1 l0_2 = some r) ∧ Aside0 (kq ≤ k) ∧ Aside0 (Kd.S (Kd.slice 3 (Kd.int .i64)) 22 w' w.heap.size (fun _ => True) v3 x3_1) ∧ Aside0 (w'.heap[gb101]? = some (.cells #[.int .i64 a0_0, .int .i64 a0_1, (.slice A0_2 l0_2.length c0_2)] 37 (0, 0))) ∧ Aside0 (Below w.heap.size w w'))
  case atStart => exact ⟨(y102), (0), (by first | rfl | (simp; done) | (simp [*]; done)), H', ⟨Nat.le_refl _⟩, ⟨by (with_reducible repeat (first | apply Kd.S_alloc | apply Kd.S_drewN | apply Kd.S_drew)); exact HO104.out⟩, ⟨by (with_reducible repeat (first | refine blk_drewN ?_ _ | refine blk_drew ?_ | refine blk_alloc ?_ _)); exact BK101.out⟩, ⟨by repeat (first | (with_reducible first | exact HB.out | apply below_alloc | apply pw_below_drewN | apply below_drew1 | refine below_set ?_ GE101.out) | exact HB.out)⟩⟩
  case round =>
    clear H'
    try clear p2
    try clear c3
    try clear hcz5_0
    try clear hcz5_1
    try clear hcz5_2
    try clear hfz5_0
    try clear hfz5_1
    try clear hfz5_2
    obtain ⟨x3_1, x13_1, rfl, HA, HK1, HO_3, BK101, HB⟩ := hrel
    cases gk with
    | zero => exact absurd HA.out (by simp [impl_Cut_crosses.l0])
    | succ k1 =>
      have H := HA.out
      clear HA
      simp only [impl_Cut_crosses.l0] at H
      by_cases c6 : x13_1 < (l0_2.length : Int)
      · rw [if_pos c6] at H
        have c6b0 : decide (x13_1 < (l0_2.length : Int)) = true := decide_eq_true c6
        clear c6
        by_cases c7 : 0 ≤ x13_1
        · rw [if_pos c7] at H
          have c7b0 : decide (0 ≤ x13_1) = true := decide_eq_true c7
          clear c7
          by_cases c8 : x13_1 < (l0_2.length : Int)
          · rw [if_pos c8] at H
            have c8b0 : decide (x13_1 < (l0_2.length : Int)) = true := decide_eq_true c8
            clear c8
            have HC9 := Aside0.mk H
            clear H
            have p105 : 0 ≤ (x13_1 : Int) := of_decide_eq_true (by first | (with_reducible assumption) | assumption)
            have q105 : x13_1 < (l0_2.length : Int) := of_decide_eq_true (by first | (with_reducible assumption) | assumption)
            obtain ⟨ad105, e105, hx105_0, hx105_1, hx105_2⟩ := at_T56 HR0_2.out x13_1 p105 q105
            cases e105
            replace hx105_0 := (HB.out.cell (World.block_lt_of_cell? w _ hx105_0)).trans hx105_0
            replace hx105_1 := (HB.out.cell (World.block_lt_of_cell? w _ hx105_1)).trans hx105_1
            replace hx105_2 := (HB.out.cell (World.block_lt_of_cell? w _ hx105_2)).trans hx105_2
            replace p105 := eq_true p105
            replace q105 := eq_true q105
            go_upto_region 5 with (first | ((with_reducible refine gate_dst (N := 5) rfl ?_); refine box_event ?hg (N := 5) ?hd (cs := #[.int .i64 0, .int .i64 0, .int .i64 0]) (t := 56) ?hr ?_; (case hd => rfl); (case hg => rfl); (case hr => first | (go_simp; done) | (go_simp; rfl)); intro gb106 hg w10 hbox hb; have n0_ := Aside0.mk (Kd.S_below (by (with_reducible repeat (first | apply Kd.S_alloc | apply Kd.S_drewN | apply Kd.S_drew)); exact HO_3.out) hb); have n1_ := Aside0.mk (blk_below (g := gb101) (o := .cells #[.int .i64 a0_0, .int .i64 a0_1, .slice (some ad105) l0_2.length c0_2] 37 (0, 0)) (by (with_reducible repeat (first | refine blk_drewN ?_ _ | refine blk_drew ?_ | refine blk_alloc ?_ _)); exact BK101.out) hb); have n2_ := Aside0.mk (below_step (by repeat (first | (with_reducible first | exact HB.out | apply below_alloc | apply pw_below_drewN | apply below_drew1 | refine below_set ?_ GE101.out) | exact HB.out)) hb); have n3_ := Aside0.mk (hbox); have n4_ := Aside0.mk ((by rw [hg]; exact (below_size (by repeat (first | (with_reducible first | exact HB.out | apply below_alloc | apply pw_below_drewN | apply below_drew1 | refine below_set ?_ GE101.out) | exact HB.out))) : w.heap.size ≤ gb106)); have n5_ := Aside0.mk ((by rw [hg]; exact (below_size (by repeat (first | (with_reducible first | exact HB.out | apply below_alloc | apply pw_below_drewN | apply below_drew1 | refine below_set ?_ GE101.out) | exact HB.out))) : w.heap.size ≤ gb106)); have n6_ := Aside0.mk ((by rw [hg]; exact Nat.ne_of_lt (blk_lt (g := gb101) (o := .cells #[.int .i64 a0_0, .int .i64 a0_1, .slice (some ad105) l0_2.length c0_2] 37 (0, 0)) (by (with_reducible repeat (first | refine blk_drewN ?_ _ | refine blk_drew ?_ | refine blk_alloc ?_ _)); exact BK101.out)) : gb101 ≠ gb106)); have n7_ := Aside0.mk ((by rw [hg]; exact Nat.ne_of_gt (blk_lt (g := gb101) (o := .cells #[.int .i64 a0_0, .int .i64 a0_1, .slice (some ad105) l0_2.length c0_2] 37 (0, 0)) (by (with_reducible repeat (first | refine blk_drewN ?_ _ | refine blk_drew ?_ | refine blk_alloc ?_ _)); exact BK101.out)) : gb106 ≠ gb101)); clear HO_3; clear BK101; clear HB; have HO_3 := n0_; have BK101 := n1_; have HB := n2_; have BK106 := n3_; have GW106 := n4_; have GE106 := n5_; have NB101_106 := n6_; have NB106_101 := n7_; clear n0_ n1_ n2_ n3_ n4_ n5_ n6_ n7_; clear hb hbox hg; have hnb11 := NB106_101.out; have hnc11 := NB101_106.out; have hcz12_0 : w10.cell? ⟨gb106, 0, none⟩ = some (.int .i64 0) := (blk_cell BK106.out 0).trans rfl; have hcz12_1 : w10.cell? ⟨gb106, 1, none⟩ = some (.int .i64 0) := (blk_cell BK106.out 1).trans rfl; have hcz12_2 : w10.cell? ⟨gb106, 2, none⟩ = some (.int .i64 0) := (blk_cell BK106.out 2).trans rfl; have hfz12_0 := blk_frozen BK106.out 0; have hfz12_1 := blk_frozen BK106.out 1; have hfz12_2 := blk_frozen BK106.out 2))
            (try simp only [Act.put, List.setIfInBounds_toArray, List.set_cons_zero, List.set_cons_succ])
            go_cut [24] (fun v24 wc => ∃ (kq : Nat) (x24_8 : Bool), v24 = .bool x24_8 ∧ Aside0 (impl_Cut_crosses.j1 kq x3_1 l0_2 (l0_2.length : Int) x13_1 x24_8 a0_0 a0_1 l0_2 ((rd_T56 l0_2 x13_1).f0) ((rd_T56 l0_2 x13_1).f1) ((rd_T56 l0_2 x13_1).f2) = some r) ∧ Aside0 (kq ≤ k1) ∧ Aside0 (Kd.S (Kd.slice 3 (Kd.int .i64)) 22 wc w.heap.size (fun _ => True) u3 x3_1) ∧ Aside0 (wc.heap[gb101]? = some (.cells #[.int .i64 a0_0, .int .i64 a0_1, (.slice (some ad105) l0_2.length c0_2)] 37 (0, 0))) ∧ Aside0 (wc.heap[gb106]? = some (.cells #[.int .i64 ((rd_T56 l0_2 x13_1).f0), .int .i64 ((rd_T56 l0_2 x13_1).f1), .int .i64 ((rd_T56 l0_2 x13_1).f2)] 56 (0, 0))) ∧ Aside0 (Below w.heap.size w wc))
            case first =>
              have H := HC9.out
              clear HC9
              by_cases c13 : ((rd_T56 l0_2 x13_1).f0) = 0
              · rw [if_pos c13] at H
                have c13b0 : (((rd_T56 l0_2 x13_1).f0) == 0) = true := beq_iff_eq.mpr c13
                have c13b1 : (((rd_T56 l0_2 x13_1).f0) != 0) = false := bne_eq_false_iff_eq.mpr c13
                clear c13
                (first | rw [c13b0] | (simp only [i64_w, i32_w]; rw [c13b0]) | skip)
                have H' := Aside0.mk H
                clear H
                have hnb14 := NB106_101.out
                have hnc14 := NB101_106.out
                have hcz15_0 : w10.cell? ⟨gb106, 0, none⟩ = some (.int .i64 0) := (blk_cell BK106.out 0).trans rfl
                have hcz15_1 : w10.cell? ⟨gb106, 1, none⟩ = some (.int .i64 0) := (blk_cell BK106.out 1).trans rfl
                have hcz15_2 : w10.cell? ⟨gb106, 2, none⟩ = some (.int .i64 0) := (blk_cell BK106.out 2).trans rfl
                have hfz15_0 := blk_frozen BK106.out 0
                have hfz15_1 := blk_frozen BK106.out 1
                have hfz15_2 := blk_frozen BK106.out 2
                go_wp2
                go_meet
                case rel => exact ⟨_, (true), (by first | rfl | (simp; done) | (simp [*]; done)), H', ⟨by have := HK1.out; first | omega | exact Nat.le_refl _⟩, ⟨by (with_reducible repeat (first | apply Kd.S_alloc | apply Kd.S_drewN | apply Kd.S_drew)); exact Kd.S_mono (Kd.S_far (p := ⟨gb106, 2, none⟩) (Kd.S_far (p := ⟨gb106, 1, none⟩) (Kd.S_far (p := ⟨gb106, 0, none⟩) (Kd.S_types HO_3.out BK106.out (by decide)) (fun _ hk => hk.2) (.int .i64 ((rd_T56 l0_2 x13_1).f0))) (fun _ hk => hk.2) (.int .i64 ((rd_T56 l0_2 x13_1).f1))) (fun _ hk => hk.2) (.int .i64 ((rd_T56 l0_2 x13_1).f2))) (fun _ hk => trivial)⟩, ⟨by (with_reducible repeat (first | refine blk_drewN ?_ _ | refine blk_drew ?_ | refine blk_alloc ?_ _)); refine blk_far ?_ NB101_106.out _; (with_reducible repeat (first | refine blk_drewN ?_ _ | refine blk_drew ?_ | refine blk_alloc ?_ _)); refine blk_far ?_ NB101_106.out _; (with_reducible repeat (first | refine blk_drewN ?_ _ | refine blk_drew ?_ | refine blk_alloc ?_ _)); refine blk_far ?_ NB101_106.out _; (with_reducible repeat (first | refine blk_drewN ?_ _ | refine blk_drew ?_ | refine blk_alloc ?_ _)); exact BK101.out⟩, ⟨by (with_reducible repeat (first | refine blk_drewN ?_ _ | refine blk_drew ?_ | refine blk_alloc ?_ _)); refine blk_put (cs := #[.int .i64 ((rd_T56 l0_2 x13_1).f0), .int .i64 ((rd_T56 l0_2 x13_1).f1), .int .i64 0]) ?_ 2 _ rfl; (with_reducible repeat (first | refine blk_drewN ?_ _ | refine blk_drew ?_ | refine blk_alloc ?_ _)); refine blk_put (cs := #[.int .i64 ((rd_T56 l0_2 x13_1).f0), .int .i64 0, .int .i64 0]) ?_ 1 _ rfl; (with_reducible repeat (first | refine blk_drewN ?_ _ | refine blk_drew ?_ | refine blk_alloc ?_ _)); refine blk_put (cs := #[.int .i64 0, .int .i64 0, .int .i64 0]) ?_ 0 _ rfl; (with_reducible repeat (first | refine blk_drewN ?_ _ | refine blk_drew ?_ | refine blk_alloc ?_ _)); exact BK106.out⟩, ⟨by repeat (first | (with_reducible first | exact HB.out | apply below_alloc | apply pw_below_drewN | apply below_drew1 | refine below_set ?_ GE101.out | refine below_set ?_ GE106.out) | exact HB.out)⟩⟩
              · rw [if_neg c13] at H
                have c13b0 : (((rd_T56 l0_2 x13_1).f0) == 0) = false := beq_eq_false_iff_ne.mpr c13
                have c13b1 : (((rd_T56 l0_2 x13_1).f0) != 0) = true := bne_iff_ne.mpr c13
                (first | rw [c13b0] | (simp only [i64_w, i32_w]; rw [c13b0]) | skip)
                have H' := Aside0.mk H
                clear H
                have hnb16 := NB106_101.out
                have hnc16 := NB101_106.out
                have hcz17_0 : w10.cell? ⟨gb106, 0, none⟩ = some (.int .i64 0) := (blk_cell BK106.out 0).trans rfl
                have hcz17_1 : w10.cell? ⟨gb106, 1, none⟩ = some (.int .i64 0) := (blk_cell BK106.out 1).trans rfl
                have hcz17_2 : w10.cell? ⟨gb106, 2, none⟩ = some (.int .i64 0) := (blk_cell BK106.out 2).trans rfl
                have hfz17_0 := blk_frozen BK106.out 0
                have hfz17_1 := blk_frozen BK106.out 1
                have hfz17_2 := blk_frozen BK106.out 2
                go_wp2
                go_meet
                case rel => exact ⟨_, ((((rd_T56 l0_2 x13_1).f1) == 0)), (by first | rfl | (simp; done) | (simp [*]; done)), H', ⟨by have := HK1.out; first | omega | exact Nat.le_refl _⟩, ⟨by (with_reducible repeat (first | apply Kd.S_alloc | apply Kd.S_drewN | apply Kd.S_drew)); exact Kd.S_mono (Kd.S_far (p := ⟨gb106, 2, none⟩) (Kd.S_far (p := ⟨gb106, 1, none⟩) (Kd.S_far (p := ⟨gb106, 0, none⟩) (Kd.S_types HO_3.out BK106.out (by decide)) (fun _ hk => hk.2) (.int .i64 ((rd_T56 l0_2 x13_1).f0))) (fun _ hk => hk.2) (.int .i64 ((rd_T56 l0_2 x13_1).f1))) (fun _ hk => hk.2) (.int .i64 ((rd_T56 l0_2 x13_1).f2))) (fun _ hk => trivial)⟩, ⟨by (with_reducible repeat (first | refine blk_drewN ?_ _ | refine blk_drew ?_ | refine blk_alloc ?_ _)); refine blk_far ?_ NB101_106.out _; (with_reducible repeat (first | refine blk_drewN ?_ _ | refine blk_drew ?_ | refine blk_alloc ?_ _)); refine blk_far ?_ NB101_106.out _; (with_reducible repeat (first | refine blk_drewN ?_ _ | refine blk_drew ?_ | refine blk_alloc ?_ _)); refine blk_far ?_ NB101_106.out _; (with_reducible repeat (first | refine blk_drewN ?_ _ | refine blk_drew ?_ | refine blk_alloc ?_ _)); exact BK101.out⟩, ⟨by (with_reducible repeat (first | refine blk_drewN ?_ _ | refine blk_drew ?_ | refine blk_alloc ?_ _)); refine blk_put (cs := #[.int .i64 ((rd_T56 l0_2 x13_1).f0), .int .i64 ((rd_T56 l0_2 x13_1).f1), .int .i64 0]) ?_ 2 _ rfl; (with_reducible repeat (first | refine blk_drewN ?_ _ | refine blk_drew ?_ | refine blk_alloc ?_ _)); refine blk_put (cs := #[.int .i64 ((rd_T56 l0_2 x13_1).f0), .int .i64 0, .int .i64 0]) ?_ 1 _ rfl; (with_reducible repeat (first | refine blk_drewN ?_ _ | refine blk_drew ?_ | refine blk_alloc ?_ _)); refine blk_put (cs := #[.int .i64 0, .int .i64 0, .int .i64 0]) ?_ 0 _ rfl; (with_reducible repeat (first | refine blk_drewN ?_ _ | refine blk_drew ?_ | refine blk_alloc ?_ _)); exact BK106.out⟩, ⟨by repeat (first | (with_reducible first | exact HB.out | apply below_alloc | apply pw_below_drewN | apply below_drew1 | refine below_set ?_ GE101.out | refine below_set ?_ GE106.out) | exact HB.out)⟩⟩
            case rest =>
              clear HC9
              try clear c1
              try clear p1
              try clear q1
              try clear hx1
              try clear p2
              try clear c3
              try clear c6
              try clear c6b0
              try clear c7
              try clear c7b0
              try clear c8
              try clear c8b0
              try clear p10
              try clear q10
              try clear hx10
              try clear c11
              try clear c13
              try clear c13b0
              try clear c13b1
              try clear c14
              try clear c16
              try clear hcz12_0
              try clear hcz12_1
              try clear hcz12_2
              try clear hcz15_0
              try clear hcz15_1
              try clear hcz15_2
              try clear hcz17_0
              try clear hcz17_1
              try clear hcz17_2
              try clear hcz5_0
              try clear hcz5_1
              try clear hcz5_2
              try clear hfz12_0
              try clear hfz12_1
              try clear hfz12_2
              try clear hfz15_0
              try clear hfz15_1
              try clear hfz15_2
              try clear hfz17_0
              try clear hfz17_1
              try clear hfz17_2
              try clear hfz5_0
              try clear hfz5_1
              try clear hfz5_2
              try clear hx105_0
              try clear hx105_1
              try clear hx105_2
              try clear p105
              try clear p2
              try clear q105
              obtain ⟨kq, x24_8, rfl, HA, HJ8, HO_3, BK101, BK106, HB⟩ := hcut
              cases kq with
              | zero => exact absurd HA.out (by simp [impl_Cut_crosses.j1])
              | succ kj8 =>
                have H := HA.out
                clear HA
                simp only [impl_Cut_crosses.j1] at H
                by_cases c18 : x24_8 = true
                · subst c18
                  have H1 : (impl_Cut_crosses.l0 kj8 x3_1 l0_2 (l0_2.length : Int) (wrap64 (x13_1 + 1)) a0_0 a0_1 l0_2) = some r := by rw [if_pos rfl] at H; exact H
                  clear H
                  have H := H1
                  clear H1
                  have H' := Aside0.mk H
                  clear H
                  go_wp2
                  go_roundg kj8
                  case measure => have := HK1.out; have := HJ8.out; omega
                  case rel => exact ⟨(x3_1), (wrap64 (x13_1 + 1)), (by first | rfl | (simp; done) | (simp [*]; done)), H', ⟨by have := HK1.out; have := HJ8.out; omega⟩, ⟨by (with_reducible repeat (first | apply Kd.S_alloc | apply Kd.S_drewN | apply Kd.S_drew)); exact HO_3.out⟩, ⟨by (with_reducible repeat (first | refine blk_drewN ?_ _ | refine blk_drew ?_ | refine blk_alloc ?_ _)); exact BK101.out⟩, ⟨by repeat (first | (with_reducible first | exact HB.out | apply below_alloc | apply pw_below_drewN | apply below_drew1 | refine below_set ?_ GE101.out | refine below_set ?_ GE106.out) | exact HB.out)⟩⟩
                · replace c18 := Bool.eq_false_iff.mpr c18
                  subst c18
                  have H1 : (impl_Cut_crosses.l1 kj8 x3_1 0 l0_2 (l0_2.length : Int) x13_1 l0_2 (l0_2.length : Int) 0 a0_0 a0_1 l0_2 ((rd_T56 l0_2 x13_1).f0) ((rd_T56 l0_2 x13_1).f1) ((rd_T56 l0_2 x13_1).f2)) = some r := by rw [if_neg (show ¬ (false = true) by decide)] at H; exact H
                  clear H
                  have H := H1
                  clear H1
                  have H' := Aside0.mk H
                  clear H
                  have hnb19 := NB101_106.out
                  have hnc19 := NB106_101.out
                  have hcz20_0 : wc.cell? ⟨gb101, 0, none⟩ = some (.int .i64 a0_0) := (blk_cell BK101.out 0).trans rfl
                  have hcz20_1 : wc.cell? ⟨gb101, 1, none⟩ = some (.int .i64 a0_1) := (blk_cell BK101.out 1).trans rfl
                  have hcz20_2 : wc.cell? ⟨gb101, 2, none⟩ = some (.slice (some ad105) l0_2.length c0_2) := (blk_cell BK101.out 2).trans rfl
                  have hfz20_0 := blk_frozen BK101.out 0
                  have hfz20_1 := blk_frozen BK101.out 1
                  have hfz20_2 := blk_frozen BK101.out 2
                  go_wp2
                  go_loopg [6, 28] kj8 (fun kq v6 v28 w' => ∃ (x6_3 : Int) (x28_3 : Int), v6 = .int .i64 x6_3 ∧ v28 = .int .i64 x28_3 ∧ Aside0 (impl_Cut_crosses.l1 kq x3_1 x6_3 l0_2 (l0_2.length : Int) x13_1 l0_2 (l0_2.length : Int) x28_3 a0_0 a0_1 l0_2 ((rd_T56 l0_2 x13_1).f0) ((rd_T56 l0_2 x13_1).f1) ((rd_T56 l0_2 x13_1).f2) = some r) ∧ Aside0 (kq ≤ kj8) ∧ Aside0 (Kd.S (Kd.slice 3 (Kd.int .i64)) 22 w' w.heap.size (fun _ => True) u3 x3_1) ∧ Aside0 (w'.heap[gb101]? = some (.cells #[.int .i64 a0_0, .int .i64 a0_1, (.slice (some ad105) l0_2.length c0_2)] 37 (0, 0))) ∧ Aside0 (w'.heap[gb106]? = some (.cells #[.int .i64 ((rd_T56 l0_2 x13_1).f0), .int .i64 ((rd_T56 l0_2 x13_1).f1), .int .i64 ((rd_T56 l0_2 x13_1).f2)] 56 (0, 0))) ∧ Aside0 (Below w.heap.size w w'))
                  case atStart => exact ⟨(0), (0), (by first | rfl | (simp; done) | (simp [*]; done)), (by first | rfl | (simp; done) | (simp [*]; done)), H', ⟨Nat.le_refl _⟩, ⟨by (with_reducible repeat (first | apply Kd.S_alloc | apply Kd.S_drewN | apply Kd.S_drew)); exact HO_3.out⟩, ⟨by (with_reducible repeat (first | refine blk_drewN ?_ _ | refine blk_drew ?_ | refine blk_alloc ?_ _)); exact BK101.out⟩, ⟨by (with_reducible repeat (first | refine blk_drewN ?_ _ | refine blk_drew ?_ | refine blk_alloc ?_ _)); exact BK106.out⟩, ⟨by repeat (first | (with_reducible first | exact HB.out | apply below_alloc | apply pw_below_drewN | apply below_drew1 | refine below_set ?_ GE101.out | refine below_set ?_ GE106.out) | exact HB.out)⟩⟩
                  case round =>
                    clear H'
                    try clear c1
                    try clear p1
                    try clear q1
                    try clear hx1
                    try clear p2
                    try clear c3
                    try clear c6
                    try clear c6b0
                    try clear p6
                    try clear c7
                    try clear c7b0
                    try clear c8
                    try clear c8b0
                    try clear p10
                    try clear q10
                    try clear hx10
                    try clear c11
                    try clear c13
                    try clear c13b0
                    try clear c13b1
                    try clear c14
                    try clear c16
                    try clear c18
                    try clear c19
                    try clear hcz12_0
                    try clear hcz12_1
                    try clear hcz12_2
                    try clear hcz15_0
                    try clear hcz15_1
                    try clear hcz15_2
                    try clear hcz17_0
                    try clear hcz17_1
                    try clear hcz17_2
                    try clear hcz20_0
                    try clear hcz20_1
                    try clear hcz20_2
                    try clear hcz5_0
                    try clear hcz5_1
                    try clear hcz5_2
                    try clear hfz12_0
                    try clear hfz12_1
                    try clear hfz12_2
                    try clear hfz15_0
                    try clear hfz15_1
                    try clear hfz15_2
                    try clear hfz17_0
                    try clear hfz17_1
                    try clear hfz17_2
                    try clear hfz20_0
                    try clear hfz20_1
                    try clear hfz20_2
                    try clear hfz5_0
                    try clear hfz5_1
                    try clear hfz5_2
                    try clear hx105_0
                    try clear hx105_1
                    try clear hx105_2
                    try clear p1
                    try clear p10
                    try clear p105
                    try clear p2
                    try clear q1
                    try clear q10
                    try clear q105
                    obtain ⟨x6_3, x28_3, rfl, rfl, HA, HK3, HO_3, BK101, BK106, HB⟩ := hrel
                    cases gk with
                    | zero => exact absurd HA.out (by simp [impl_Cut_crosses.l1])
                    | succ k3 =>
                      have H := HA.out
                      clear HA
                      simp only [impl_Cut_crosses.l1] at H
                      by_cases c21 : x28_3 < (l0_2.length : Int)
                      · rw [if_pos c21] at H
                        have c21b0 : decide (x28_3 < (l0_2.length : Int)) = true := decide_eq_true c21
                        clear c21
                        by_cases c22 : 0 ≤ x28_3
                        · rw [if_pos c22] at H
                          have c22b0 : decide (0 ≤ x28_3) = true := decide_eq_true c22
                          clear c22
                          by_cases c23 : x28_3 < (l0_2.length : Int)
                          · rw [if_pos c23] at H
                            have c23b0 : decide (x28_3 < (l0_2.length : Int)) = true := decide_eq_true c23
                            clear c23
                            by_cases c24 : ((rd_T56 l0_2 x28_3).f0) = ((rd_T56 l0_2 x13_1).f0)
                            · rw [if_pos c24] at H
                              have c24b0 : (((rd_T56 l0_2 x28_3).f0) == ((rd_T56 l0_2 x13_1).f0)) = true := beq_iff_eq.mpr c24
                              have c24b1 : (((rd_T56 l0_2 x28_3).f0) != ((rd_T56 l0_2 x13_1).f0)) = false := bne_eq_false_iff_eq.mpr c24
                              clear c24
                              by_cases c25 : ((rd_T56 l0_2 x28_3).f1) = ((rd_T56 l0_2 x13_1).f1)
                              · rw [if_pos c25] at H
                                have c25b0 : (((rd_T56 l0_2 x28_3).f1) == ((rd_T56 l0_2 x13_1).f1)) = true := beq_iff_eq.mpr c25
                                have c25b1 : (((rd_T56 l0_2 x28_3).f1) != ((rd_T56 l0_2 x13_1).f1)) = false := bne_eq_false_iff_eq.mpr c25
                                clear c25
                                replace H := Option.bind_eq_some_iff.mp H
                                obtain ⟨t109, A260, H⟩ := H
                                replace H : (impl_Cut_crosses.l1 k3 x3_1 (wrap64 (x6_3 + t109)) l0_2 (l0_2.length : Int) x13_1 l0_2 (l0_2.length : Int) (wrap64 (x28_3 + 1)) a0_0 a0_1 l0_2 ((rd_T56 l0_2 x13_1).f0) ((rd_T56 l0_2 x13_1).f1) ((rd_T56 l0_2 x13_1).f2)) = some r := H
                                have A26 := Aside0.mk A260
                                clear A260
                                have H' := Aside0.mk H
                                clear H
                                have p107 : 0 ≤ (x28_3 : Int) := of_decide_eq_true (by first | (with_reducible assumption) | assumption)
                                have q107 : x28_3 < (l0_2.length : Int) := of_decide_eq_true (by first | (with_reducible assumption) | assumption)
                                obtain ⟨ad107, e107, hx107_0, hx107_1, hx107_2⟩ := at_T56 HR0_2.out x28_3 p107 q107
                                obtain rfl : ad105 = ad107 := (by injection e107)
                                replace hx107_0 := (HB.out.cell (World.block_lt_of_cell? w _ hx107_0)).trans hx107_0
                                replace hx107_1 := (HB.out.cell (World.block_lt_of_cell? w _ hx107_1)).trans hx107_1
                                replace hx107_2 := (HB.out.cell (World.block_lt_of_cell? w _ hx107_2)).trans hx107_2
                                replace p107 := eq_true p107
                                replace q107 := eq_true q107
                                go_wp2_with (first | ((with_reducible refine gate_dst (N := 8) rfl ?_); refine box_event ?hg (N := 8) ?hd (cs := #[.int .i64 0, .int .i64 0, .int .i64 0]) (t := 56) ?hr ?_; (case hd => rfl); (case hg => rfl); (case hr => first | (go_simp; done) | (go_simp; rfl)); intro gb108 hg w27 hbox hb; have n0_ := Aside0.mk (Kd.S_below (by (with_reducible repeat (first | apply Kd.S_alloc | apply Kd.S_drewN | apply Kd.S_drew)); exact HO_3.out) hb); have n1_ := Aside0.mk (blk_below (g := gb101) (o := .cells #[.int .i64 a0_0, .int .i64 a0_1, .slice (some ad105) l0_2.length c0_2] 37 (0, 0)) (by (with_reducible repeat (first | refine blk_drewN ?_ _ | refine blk_drew ?_ | refine blk_alloc ?_ _)); exact BK101.out) hb); have n2_ := Aside0.mk (blk_below (g := gb106) (o := .cells #[.int .i64 ((rd_T56 l0_2 x13_1).f0), .int .i64 ((rd_T56 l0_2 x13_1).f1), .int .i64 ((rd_T56 l0_2 x13_1).f2)] 56 (0, 0)) (by (with_reducible repeat (first | refine blk_drewN ?_ _ | refine blk_drew ?_ | refine blk_alloc ?_ _)); exact BK106.out) hb); have n3_ := Aside0.mk (below_step (by repeat (first | (with_reducible first | exact HB.out | apply below_alloc | apply pw_below_drewN | apply below_drew1 | refine below_set ?_ GE101.out | refine below_set ?_ GE106.out) | exact HB.out)) hb); have n4_ := Aside0.mk (hbox); have n5_ := Aside0.mk ((by rw [hg]; exact (below_size (by repeat (first | (with_reducible first | exact HB.out | apply below_alloc | apply pw_below_drewN | apply below_drew1 | refine below_set ?_ GE101.out | refine below_set ?_ GE106.out) | exact HB.out))) : w.heap.size ≤ gb108)); have n6_ := Aside0.mk ((by rw [hg]; exact (below_size (by repeat (first | (with_reducible first | exact HB.out | apply below_alloc | apply pw_below_drewN | apply below_drew1 | refine below_set ?_ GE101.out | refine below_set ?_ GE106.out) | exact HB.out))) : w.heap.size ≤ gb108)); have n7_ := Aside0.mk ((by rw [hg]; exact Nat.ne_of_lt (blk_lt (g := gb101) (o := .cells #[.int .i64 a0_0, .int .i64 a0_1, .slice (some ad105) l0_2.length c0_2] 37 (0, 0)) (by (with_reducible repeat (first | refine blk_drewN ?_ _ | refine blk_drew ?_ | refine blk_alloc ?_ _)); exact BK101.out)) : gb101 ≠ gb108)); have n8_ := Aside0.mk ((by rw [hg]; exact Nat.ne_of_gt (blk_lt (g := gb101) (o := .cells #[.int .i64 a0_0, .int .i64 a0_1, .slice (some ad105) l0_2.length c0_2] 37 (0, 0)) (by (with_reducible repeat (first | refine blk_drewN ?_ _ | refine blk_drew ?_ | refine blk_alloc ?_ _)); exact BK101.out)) : gb108 ≠ gb101)); have n9_ := Aside0.mk ((by rw [hg]; exact Nat.ne_of_lt (blk_lt (g := gb106) (o := .cells #[.int .i64 ((rd_T56 l0_2 x13_1).f0), .int .i64 ((rd_T56 l0_2 x13_1).f1), .int .i64 ((rd_T56 l0_2 x13_1).f2)] 56 (0, 0)) (by (with_reducible repeat (first | refine blk_drewN ?_ _ | refine blk_drew ?_ | refine blk_alloc ?_ _)); exact BK106.out)) : gb106 ≠ gb108)); have n10_ := Aside0.mk ((by rw [hg]; exact Nat.ne_of_gt (blk_lt (g := gb106) (o := .cells #[.int .i64 ((rd_T56 l0_2 x13_1).f0), .int .i64 ((rd_T56 l0_2 x13_1).f1), .int .i64 ((rd_T56 l0_2 x13_1).f2)] 56 (0, 0)) (by (with_reducible repeat (first | refine blk_drewN ?_ _ | refine blk_drew ?_ | refine blk_alloc ?_ _)); exact BK106.out)) : gb108 ≠ gb106)); clear HO_3; clear BK101; clear BK106; clear HB; have HO_3 := n0_; have BK101 := n1_; have BK106 := n2_; have HB := n3_; have BK108 := n4_; have GW108 := n5_; have GE108 := n6_; have NB101_108 := n7_; have NB108_101 := n8_; have NB106_108 := n9_; have NB108_106 := n10_; clear n0_ n1_ n2_ n3_ n4_ n5_ n6_ n7_ n8_ n9_ n10_; clear hb hbox hg; have hnb28 := NB108_101.out; have hnc28 := NB101_108.out; have hnb29 := NB108_106.out; have hnc29 := NB106_108.out; have hcz30_0 : w27.cell? ⟨gb108, 0, none⟩ = some (.int .i64 0) := (blk_cell BK108.out 0).trans rfl; have hcz30_1 : w27.cell? ⟨gb108, 1, none⟩ = some (.int .i64 0) := (blk_cell BK108.out 1).trans rfl; have hcz30_2 : w27.cell? ⟨gb108, 2, none⟩ = some (.int .i64 0) := (blk_cell BK108.out 2).trans rfl; have hfz30_0 := blk_frozen BK108.out 0; have hfz30_1 := blk_frozen BK108.out 1; have hfz30_2 := blk_frozen BK108.out 2; have hnb31 := NB106_101.out; have hnc31 := NB101_106.out; have hcz32_0 : w27.cell? ⟨gb106, 0, none⟩ = some (.int .i64 ((rd_T56 l0_2 x13_1).f0)) := (blk_cell BK106.out 0).trans rfl; have hcz32_1 : w27.cell? ⟨gb106, 1, none⟩ = some (.int .i64 ((rd_T56 l0_2 x13_1).f1)) := (blk_cell BK106.out 1).trans rfl; have hcz32_2 : w27.cell? ⟨gb106, 2, none⟩ = some (.int .i64 ((rd_T56 l0_2 x13_1).f2)) := (blk_cell BK106.out 2).trans rfl; have hfz32_0 := blk_frozen BK106.out 0; have hfz32_1 := blk_frozen BK106.out 1; have hfz32_2 := blk_frozen BK106.out 2) | ((with_reducible refine gate_callee (f := 73) rfl ?_); refine goesL_ (some 65) rfl rfl Try.func73 (by kernel_rfl) rfl #[.bool true] rfl (by (try simp only [List.map_toArray, List.map_cons, List.map_nil]); first | done | rfl | (simp only [List.length_drop, List.length_take]; rfl)) ?_; (with_reducible refine (impl_bit.calls true t109 _ A26.out).mono ?_); rintro e w' ⟨rfl, ⟨nd, rfl⟩⟩; refine ⟨_, rfl, ?_⟩))
                                go_roundg k3
                                case measure => have := HK1.out; have := HJ8.out; have := HK3.out; omega
                                case rel => exact ⟨(wrap64 (x6_3 + t109)), (wrap64 (x28_3 + 1)), (by first | rfl | (simp; done) | (simp [*]; done)), (by first | rfl | (simp; done) | (simp [*]; done)), H', ⟨by have := HK1.out; have := HJ8.out; have := HK3.out; omega⟩, ⟨by (with_reducible repeat (first | apply Kd.S_alloc | apply Kd.S_drewN | apply Kd.S_drew)); exact Kd.S_mono (Kd.S_far (p := ⟨gb108, 2, none⟩) (Kd.S_far (p := ⟨gb108, 1, none⟩) (Kd.S_far (p := ⟨gb108, 0, none⟩) (Kd.S_types HO_3.out BK108.out (by decide)) (fun _ hk => hk.2) (.int .i64 ((rd_T56 l0_2 x28_3).f0))) (fun _ hk => hk.2) (.int .i64 ((rd_T56 l0_2 x28_3).f1))) (fun _ hk => hk.2) (.int .i64 ((rd_T56 l0_2 x28_3).f2))) (fun _ hk => trivial)⟩, ⟨by (with_reducible repeat (first | refine blk_drewN ?_ _ | refine blk_drew ?_ | refine blk_alloc ?_ _)); refine blk_far ?_ NB101_108.out _; (with_reducible repeat (first | refine blk_drewN ?_ _ | refine blk_drew ?_ | refine blk_alloc ?_ _)); refine blk_far ?_ NB101_108.out _; (with_reducible repeat (first | refine blk_drewN ?_ _ | refine blk_drew ?_ | refine blk_alloc ?_ _)); refine blk_far ?_ NB101_108.out _; (with_reducible repeat (first | refine blk_drewN ?_ _ | refine blk_drew ?_ | refine blk_alloc ?_ _)); exact BK101.out⟩, ⟨by (with_reducible repeat (first | refine blk_drewN ?_ _ | refine blk_drew ?_ | refine blk_alloc ?_ _)); refine blk_far ?_ NB106_108.out _; (with_reducible repeat (first | refine blk_drewN ?_ _ | refine blk_drew ?_ | refine blk_alloc ?_ _)); refine blk_far ?_ NB106_108.out _; (with_reducible repeat (first | refine blk_drewN ?_ _ | refine blk_drew ?_ | refine blk_alloc ?_ _)); refine blk_far ?_ NB106_108.out _; (with_reducible repeat (first | refine blk_drewN ?_ _ | refine blk_drew ?_ | refine blk_alloc ?_ _)); exact BK106.out⟩, ⟨by repeat (first | (with_reducible first | exact HB.out | apply below_alloc | apply pw_below_drewN | apply below_drew1 | refine below_set ?_ GE101.out | refine below_set ?_ GE106.out | refine below_set ?_ GE108.out) | exact HB.out)⟩⟩
                              · rw [if_neg c25] at H
                                have c25b0 : (((rd_T56 l0_2 x28_3).f1) == ((rd_T56 l0_2 x13_1).f1)) = false := beq_eq_false_iff_ne.mpr c25
                                have c25b1 : (((rd_T56 l0_2 x28_3).f1) != ((rd_T56 l0_2 x13_1).f1)) = true := bne_iff_ne.mpr c25
                                replace H := Option.bind_eq_some_iff.mp H
                                obtain ⟨t110, A330, H⟩ := H
                                replace H : (impl_Cut_crosses.l1 k3 x3_1 (wrap64 (x6_3 + t110)) l0_2 (l0_2.length : Int) x13_1 l0_2 (l0_2.length : Int) (wrap64 (x28_3 + 1)) a0_0 a0_1 l0_2 ((rd_T56 l0_2 x13_1).f0) ((rd_T56 l0_2 x13_1).f1) ((rd_T56 l0_2 x13_1).f2)) = some r := H
                                have A33 := Aside0.mk A330
                                clear A330
                                have H' := Aside0.mk H
                                clear H
                                have p107 : 0 ≤ (x28_3 : Int) := of_decide_eq_true (by first | (with_reducible assumption) | assumption)
                                have q107 : x28_3 < (l0_2.length : Int) := of_decide_eq_true (by first | (with_reducible assumption) | assumption)
                                obtain ⟨ad107, e107, hx107_0, hx107_1, hx107_2⟩ := at_T56 HR0_2.out x28_3 p107 q107
                                obtain rfl : ad105 = ad107 := (by injection e107)
                                replace hx107_0 := (HB.out.cell (World.block_lt_of_cell? w _ hx107_0)).trans hx107_0
                                replace hx107_1 := (HB.out.cell (World.block_lt_of_cell? w _ hx107_1)).trans hx107_1
                                replace hx107_2 := (HB.out.cell (World.block_lt_of_cell? w _ hx107_2)).trans hx107_2
                                replace p107 := eq_true p107
                                replace q107 := eq_true q107
                                go_wp2_with (first | ((with_reducible refine gate_dst (N := 8) rfl ?_); refine box_event ?hg (N := 8) ?hd (cs := #[.int .i64 0, .int .i64 0, .int .i64 0]) (t := 56) ?hr ?_; (case hd => rfl); (case hg => rfl); (case hr => first | (go_simp; done) | (go_simp; rfl)); intro gb108 hg w34 hbox hb; have n0_ := Aside0.mk (Kd.S_below (by (with_reducible repeat (first | apply Kd.S_alloc | apply Kd.S_drewN | apply Kd.S_drew)); exact HO_3.out) hb); have n1_ := Aside0.mk (blk_below (g := gb101) (o := .cells #[.int .i64 a0_0, .int .i64 a0_1, .slice (some ad105) l0_2.length c0_2] 37 (0, 0)) (by (with_reducible repeat (first | refine blk_drewN ?_ _ | refine blk_drew ?_ | refine blk_alloc ?_ _)); exact BK101.out) hb); have n2_ := Aside0.mk (blk_below (g := gb106) (o := .cells #[.int .i64 ((rd_T56 l0_2 x13_1).f0), .int .i64 ((rd_T56 l0_2 x13_1).f1), .int .i64 ((rd_T56 l0_2 x13_1).f2)] 56 (0, 0)) (by (with_reducible repeat (first | refine blk_drewN ?_ _ | refine blk_drew ?_ | refine blk_alloc ?_ _)); exact BK106.out) hb); have n3_ := Aside0.mk (below_step (by repeat (first | (with_reducible first | exact HB.out | apply below_alloc | apply pw_below_drewN | apply below_drew1 | refine below_set ?_ GE101.out | refine below_set ?_ GE106.out) | exact HB.out)) hb); have n4_ := Aside0.mk (hbox); have n5_ := Aside0.mk ((by rw [hg]; exact (below_size (by repeat (first | (with_reducible first | exact HB.out | apply below_alloc | apply pw_below_drewN | apply below_drew1 | refine below_set ?_ GE101.out | refine below_set ?_ GE106.out) | exact HB.out))) : w.heap.size ≤ gb108)); have n6_ := Aside0.mk ((by rw [hg]; exact (below_size (by repeat (first | (with_reducible first | exact HB.out | apply below_alloc | apply pw_below_drewN | apply below_drew1 | refine below_set ?_ GE101.out | refine below_set ?_ GE106.out) | exact HB.out))) : w.heap.size ≤ gb108)); have n7_ := Aside0.mk ((by rw [hg]; exact Nat.ne_of_lt (blk_lt (g := gb101) (o := .cells #[.int .i64 a0_0, .int .i64 a0_1, .slice (some ad105) l0_2.length c0_2] 37 (0, 0)) (by (with_reducible repeat (first | refine blk_drewN ?_ _ | refine blk_drew ?_ | refine blk_alloc ?_ _)); exact BK101.out)) : gb101 ≠ gb108)); have n8_ := Aside0.mk ((by rw [hg]; exact Nat.ne_of_gt (blk_lt (g := gb101) (o := .cells #[.int .i64 a0_0, .int .i64 a0_1, .slice (some ad105) l0_2.length c0_2] 37 (0, 0)) (by (with_reducible repeat (first | refine blk_drewN ?_ _ | refine blk_drew ?_ | refine blk_alloc ?_ _)); exact BK101.out)) : gb108 ≠ gb101)); have n9_ := Aside0.mk ((by rw [hg]; exact Nat.ne_of_lt (blk_lt (g := gb106) (o := .cells #[.int .i64 ((rd_T56 l0_2 x13_1).f0), .int .i64 ((rd_T56 l0_2 x13_1).f1), .int .i64 ((rd_T56 l0_2 x13_1).f2)] 56 (0, 0)) (by (with_reducible repeat (first | refine blk_drewN ?_ _ | refine blk_drew ?_ | refine blk_alloc ?_ _)); exact BK106.out)) : gb106 ≠ gb108)); have n10_ := Aside0.mk ((by rw [hg]; exact Nat.ne_of_gt (blk_lt (g := gb106) (o := .cells #[.int .i64 ((rd_T56 l0_2 x13_1).f0), .int .i64 ((rd_T56 l0_2 x13_1).f1), .int .i64 ((rd_T56 l0_2 x13_1).f2)] 56 (0, 0)) (by (with_reducible repeat (first | refine blk_drewN ?_ _ | refine blk_drew ?_ | refine blk_alloc ?_ _)); exact BK106.out)) : gb108 ≠ gb106)); clear HO_3; clear BK101; clear BK106; clear HB; have HO_3 := n0_; have BK101 := n1_; have BK106 := n2_; have HB := n3_; have BK108 := n4_; have GW108 := n5_; have GE108 := n6_; have NB101_108 := n7_; have NB108_101 := n8_; have NB106_108 := n9_; have NB108_106 := n10_; clear n0_ n1_ n2_ n3_ n4_ n5_ n6_ n7_ n8_ n9_ n10_; clear hb hbox hg; have hnb35 := NB108_101.out; have hnc35 := NB101_108.out; have hnb36 := NB108_106.out; have hnc36 := NB106_108.out; have hcz37_0 : w34.cell? ⟨gb108, 0, none⟩ = some (.int .i64 0) := (blk_cell BK108.out 0).trans rfl; have hcz37_1 : w34.cell? ⟨gb108, 1, none⟩ = some (.int .i64 0) := (blk_cell BK108.out 1).trans rfl; have hcz37_2 : w34.cell? ⟨gb108, 2, none⟩ = some (.int .i64 0) := (blk_cell BK108.out 2).trans rfl; have hfz37_0 := blk_frozen BK108.out 0; have hfz37_1 := blk_frozen BK108.out 1; have hfz37_2 := blk_frozen BK108.out 2; have hnb38 := NB106_101.out; have hnc38 := NB101_106.out; have hcz39_0 : w34.cell? ⟨gb106, 0, none⟩ = some (.int .i64 ((rd_T56 l0_2 x13_1).f0)) := (blk_cell BK106.out 0).trans rfl; have hcz39_1 : w34.cell? ⟨gb106, 1, none⟩ = some (.int .i64 ((rd_T56 l0_2 x13_1).f1)) := (blk_cell BK106.out 1).trans rfl; have hcz39_2 : w34.cell? ⟨gb106, 2, none⟩ = some (.int .i64 ((rd_T56 l0_2 x13_1).f2)) := (blk_cell BK106.out 2).trans rfl; have hfz39_0 := blk_frozen BK106.out 0; have hfz39_1 := blk_frozen BK106.out 1; have hfz39_2 := blk_frozen BK106.out 2) | ((with_reducible refine gate_callee (f := 73) rfl ?_); refine goesL_ (some 65) rfl rfl Try.func73 (by kernel_rfl) rfl #[.bool ((wrap64 (((rd_T56 l0_2 x28_3).f1) + ((rd_T56 l0_2 x28_3).f2))) == ((rd_T56 l0_2 x13_1).f1))] rfl (by (try simp only [List.map_toArray, List.map_cons, List.map_nil]); first | done | rfl | (simp only [List.length_drop, List.length_take]; rfl)) ?_; (with_reducible refine (impl_bit.calls ((wrap64 (((rd_T56 l0_2 x28_3).f1) + ((rd_T56 l0_2 x28_3).f2))) == ((rd_T56 l0_2 x13_1).f1)) t110 _ A33.out).mono ?_); rintro e w' ⟨rfl, ⟨nd, rfl⟩⟩; refine ⟨_, rfl, ?_⟩))
                                go_roundg k3
                                case measure => have := HK1.out; have := HJ8.out; have := HK3.out; omega
                                case rel => exact ⟨(wrap64 (x6_3 + t110)), (wrap64 (x28_3 + 1)), (by first | rfl | (simp; done) | (simp [*]; done)), (by first | rfl | (simp; done) | (simp [*]; done)), H', ⟨by have := HK1.out; have := HJ8.out; have := HK3.out; omega⟩, ⟨by (with_reducible repeat (first | apply Kd.S_alloc | apply Kd.S_drewN | apply Kd.S_drew)); exact Kd.S_mono (Kd.S_far (p := ⟨gb108, 2, none⟩) (Kd.S_far (p := ⟨gb108, 1, none⟩) (Kd.S_far (p := ⟨gb108, 0, none⟩) (Kd.S_types HO_3.out BK108.out (by decide)) (fun _ hk => hk.2) (.int .i64 ((rd_T56 l0_2 x28_3).f0))) (fun _ hk => hk.2) (.int .i64 ((rd_T56 l0_2 x28_3).f1))) (fun _ hk => hk.2) (.int .i64 ((rd_T56 l0_2 x28_3).f2))) (fun _ hk => trivial)⟩, ⟨by (with_reducible repeat (first | refine blk_drewN ?_ _ | refine blk_drew ?_ | refine blk_alloc ?_ _)); refine blk_far ?_ NB101_108.out _; (with_reducible repeat (first | refine blk_drewN ?_ _ | refine blk_drew ?_ | refine blk_alloc ?_ _)); refine blk_far ?_ NB101_108.out _; (with_reducible repeat (first | refine blk_drewN ?_ _ | refine blk_drew ?_ | refine blk_alloc ?_ _)); refine blk_far ?_ NB101_108.out _; (with_reducible repeat (first | refine blk_drewN ?_ _ | refine blk_drew ?_ | refine blk_alloc ?_ _)); exact BK101.out⟩, ⟨by (with_reducible repeat (first | refine blk_drewN ?_ _ | refine blk_drew ?_ | refine blk_alloc ?_ _)); refine blk_far ?_ NB106_108.out _; (with_reducible repeat (first | refine blk_drewN ?_ _ | refine blk_drew ?_ | refine blk_alloc ?_ _)); refine blk_far ?_ NB106_108.out _; (with_reducible repeat (first | refine blk_drewN ?_ _ | refine blk_drew ?_ | refine blk_alloc ?_ _)); refine blk_far ?_ NB106_108.out _; (with_reducible repeat (first | refine blk_drewN ?_ _ | refine blk_drew ?_ | refine blk_alloc ?_ _)); exact BK106.out⟩, ⟨by repeat (first | (with_reducible first | exact HB.out | apply below_alloc | apply pw_below_drewN | apply below_drew1 | refine below_set ?_ GE101.out | refine below_set ?_ GE106.out | refine below_set ?_ GE108.out) | exact HB.out)⟩⟩
                            · rw [if_neg c24] at H
                              have c24b0 : (((rd_T56 l0_2 x28_3).f0) == ((rd_T56 l0_2 x13_1).f0)) = false := beq_eq_false_iff_ne.mpr c24
                              have c24b1 : (((rd_T56 l0_2 x28_3).f0) != ((rd_T56 l0_2 x13_1).f0)) = true := bne_iff_ne.mpr c24
                              by_cases c40 : (wrap64 (((rd_T56 l0_2 x28_3).f0) + ((rd_T56 l0_2 x28_3).f2))) = ((rd_T56 l0_2 x13_1).f0)
                              · rw [if_pos c40] at H
                                have c40b0 : ((wrap64 (((rd_T56 l0_2 x28_3).f0) + ((rd_T56 l0_2 x28_3).f2))) == ((rd_T56 l0_2 x13_1).f0)) = true := beq_iff_eq.mpr c40
                                have c40b1 : ((wrap64 (((rd_T56 l0_2 x28_3).f0) + ((rd_T56 l0_2 x28_3).f2))) != ((rd_T56 l0_2 x13_1).f0)) = false := bne_eq_false_iff_eq.mpr c40
                                clear c40
                                by_cases c41 : ((rd_T56 l0_2 x28_3).f1) = ((rd_T56 l0_2 x13_1).f1)
                                · rw [if_pos c41] at H
                                  have c41b0 : (((rd_T56 l0_2 x28_3).f1) == ((rd_T56 l0_2 x13_1).f1)) = true := beq_iff_eq.mpr c41
                                  have c41b1 : (((rd_T56 l0_2 x28_3).f1) != ((rd_T56 l0_2 x13_1).f1)) = false := bne_eq_false_iff_eq.mpr c41
                                  clear c41
                                  replace H := Option.bind_eq_some_iff.mp H
                                  obtain ⟨t111, A420, H⟩ := H
                                  replace H : (impl_Cut_crosses.l1 k3 x3_1 (wrap64 (x6_3 + t111)) l0_2 (l0_2.length : Int) x13_1 l0_2 (l0_2.length : Int) (wrap64 (x28_3 + 1)) a0_0 a0_1 l0_2 ((rd_T56 l0_2 x13_1).f0) ((rd_T56 l0_2 x13_1).f1) ((rd_T56 l0_2 x13_1).f2)) = some r := H
                                  have A42 := Aside0.mk A420
                                  clear A420
                                  have H' := Aside0.mk H
                                  clear H
                                  have p107 : 0 ≤ (x28_3 : Int) := of_decide_eq_true (by first | (with_reducible assumption) | assumption)
                                  have q107 : x28_3 < (l0_2.length : Int) := of_decide_eq_true (by first | (with_reducible assumption) | assumption)
                                  obtain ⟨ad107, e107, hx107_0, hx107_1, hx107_2⟩ := at_T56 HR0_2.out x28_3 p107 q107
                                  obtain rfl : ad105 = ad107 := (by injection e107)
                                  replace hx107_0 := (HB.out.cell (World.block_lt_of_cell? w _ hx107_0)).trans hx107_0
                                  replace hx107_1 := (HB.out.cell (World.block_lt_of_cell? w _ hx107_1)).trans hx107_1
                                  replace hx107_2 := (HB.out.cell (World.block_lt_of_cell? w _ hx107_2)).trans hx107_2
                                  replace p107 := eq_true p107
                                  replace q107 := eq_true q107
                                  go_wp2_with (first | ((with_reducible refine gate_dst (N := 8) rfl ?_); refine box_event ?hg (N := 8) ?hd (cs := #[.int .i64 0, .int .i64 0, .int .i64 0]) (t := 56) ?hr ?_; (case hd => rfl); (case hg => rfl); (case hr => first | (go_simp; done) | (go_simp; rfl)); intro gb108 hg w43 hbox hb; have n0_ := Aside0.mk (Kd.S_below (by (with_reducible repeat (first | apply Kd.S_alloc | apply Kd.S_drewN | apply Kd.S_drew)); exact HO_3.out) hb); have n1_ := Aside0.mk (blk_below (g := gb101) (o := .cells #[.int .i64 a0_0, .int .i64 a0_1, .slice (some ad105) l0_2.length c0_2] 37 (0, 0)) (by (with_reducible repeat (first | refine blk_drewN ?_ _ | refine blk_drew ?_ | refine blk_alloc ?_ _)); exact BK101.out) hb); have n2_ := Aside0.mk (blk_below (g := gb106) (o := .cells #[.int .i64 ((rd_T56 l0_2 x13_1).f0), .int .i64 ((rd_T56 l0_2 x13_1).f1), .int .i64 ((rd_T56 l0_2 x13_1).f2)] 56 (0, 0)) (by (with_reducible repeat (first | refine blk_drewN ?_ _ | refine blk_drew ?_ | refine blk_alloc ?_ _)); exact BK106.out) hb); have n3_ := Aside0.mk (below_step (by repeat (first | (with_reducible first | exact HB.out | apply below_alloc | apply pw_below_drewN | apply below_drew1 | refine below_set ?_ GE101.out | refine below_set ?_ GE106.out) | exact HB.out)) hb); have n4_ := Aside0.mk (hbox); have n5_ := Aside0.mk ((by rw [hg]; exact (below_size (by repeat (first | (with_reducible first | exact HB.out | apply below_alloc | apply pw_below_drewN | apply below_drew1 | refine below_set ?_ GE101.out | refine below_set ?_ GE106.out) | exact HB.out))) : w.heap.size ≤ gb108)); have n6_ := Aside0.mk ((by rw [hg]; exact (below_size (by repeat (first | (with_reducible first | exact HB.out | apply below_alloc | apply pw_below_drewN | apply below_drew1 | refine below_set ?_ GE101.out | refine below_set ?_ GE106.out) | exact HB.out))) : w.heap.size ≤ gb108)); have n7_ := Aside0.mk ((by rw [hg]; exact Nat.ne_of_lt (blk_lt (g := gb101) (o := .cells #[.int .i64 a0_0, .int .i64 a0_1, .slice (some ad105) l0_2.length c0_2] 37 (0, 0)) (by (with_reducible repeat (first | refine blk_drewN ?_ _ | refine blk_drew ?_ | refine blk_alloc ?_ _)); exact BK101.out)) : gb101 ≠ gb108)); have n8_ := Aside0.mk ((by rw [hg]; exact Nat.ne_of_gt (blk_lt (g := gb101) (o := .cells #[.int .i64 a0_0, .int .i64 a0_1, .slice (some ad105) l0_2.length c0_2] 37 (0, 0)) (by (with_reducible repeat (first | refine blk_drewN ?_ _ | refine blk_drew ?_ | refine blk_alloc ?_ _)); exact BK101.out)) : gb108 ≠ gb101)); have n9_ := Aside0.mk ((by rw [hg]; exact Nat.ne_of_lt (blk_lt (g := gb106) (o := .cells #[.int .i64 ((rd_T56 l0_2 x13_1).f0), .int .i64 ((rd_T56 l0_2 x13_1).f1), .int .i64 ((rd_T56 l0_2 x13_1).f2)] 56 (0, 0)) (by (with_reducible repeat (first | refine blk_drewN ?_ _ | refine blk_drew ?_ | refine blk_alloc ?_ _)); exact BK106.out)) : gb106 ≠ gb108)); have n10_ := Aside0.mk ((by rw [hg]; exact Nat.ne_of_gt (blk_lt (g := gb106) (o := .cells #[.int .i64 ((rd_T56 l0_2 x13_1).f0), .int .i64 ((rd_T56 l0_2 x13_1).f1), .int .i64 ((rd_T56 l0_2 x13_1).f2)] 56 (0, 0)) (by (with_reducible repeat (first | refine blk_drewN ?_ _ | refine blk_drew ?_ | refine blk_alloc ?_ _)); exact BK106.out)) : gb108 ≠ gb106)); clear HO_3; clear BK101; clear BK106; clear HB; have HO_3 := n0_; have BK101 := n1_; have BK106 := n2_; have HB := n3_; have BK108 := n4_; have GW108 := n5_; have GE108 := n6_; have NB101_108 := n7_; have NB108_101 := n8_; have NB106_108 := n9_; have NB108_106 := n10_; clear n0_ n1_ n2_ n3_ n4_ n5_ n6_ n7_ n8_ n9_ n10_; clear hb hbox hg; have hnb44 := NB108_101.out; have hnc44 := NB101_108.out; have hnb45 := NB108_106.out; have hnc45 := NB106_108.out; have hcz46_0 : w43.cell? ⟨gb108, 0, none⟩ = some (.int .i64 0) := (blk_cell BK108.out 0).trans rfl; have hcz46_1 : w43.cell? ⟨gb108, 1, none⟩ = some (.int .i64 0) := (blk_cell BK108.out 1).trans rfl; have hcz46_2 : w43.cell? ⟨gb108, 2, none⟩ = some (.int .i64 0) := (blk_cell BK108.out 2).trans rfl; have hfz46_0 := blk_frozen BK108.out 0; have hfz46_1 := blk_frozen BK108.out 1; have hfz46_2 := blk_frozen BK108.out 2; have hnb47 := NB106_101.out; have hnc47 := NB101_106.out; have hcz48_0 : w43.cell? ⟨gb106, 0, none⟩ = some (.int .i64 ((rd_T56 l0_2 x13_1).f0)) := (blk_cell BK106.out 0).trans rfl; have hcz48_1 : w43.cell? ⟨gb106, 1, none⟩ = some (.int .i64 ((rd_T56 l0_2 x13_1).f1)) := (blk_cell BK106.out 1).trans rfl; have hcz48_2 : w43.cell? ⟨gb106, 2, none⟩ = some (.int .i64 ((rd_T56 l0_2 x13_1).f2)) := (blk_cell BK106.out 2).trans rfl; have hfz48_0 := blk_frozen BK106.out 0; have hfz48_1 := blk_frozen BK106.out 1; have hfz48_2 := blk_frozen BK106.out 2) | ((with_reducible refine gate_callee (f := 73) rfl ?_); refine goesL_ (some 65) rfl rfl Try.func73 (by kernel_rfl) rfl #[.bool true] rfl (by (try simp only [List.map_toArray, List.map_cons, List.map_nil]); first | done | rfl | (simp only [List.length_drop, List.length_take]; rfl)) ?_; (with_reducible refine (impl_bit.calls true t111 _ A42.out).mono ?_); rintro e w' ⟨rfl, ⟨nd, rfl⟩⟩; refine ⟨_, rfl, ?_⟩))
                                  go_roundg k3
                                  case measure => have := HK1.out; have := HJ8.out; have := HK3.out; omega
                                  case rel => exact ⟨(wrap64 (x6_3 + t111)), (wrap64 (x28_3 + 1)), (by first | rfl | (simp; done) | (simp [*]; done)), (by first | rfl | (simp; done) | (simp [*]; done)), H', ⟨by have := HK1.out; have := HJ8.out; have := HK3.out; omega⟩, ⟨by (with_reducible repeat (first | apply Kd.S_alloc | apply Kd.S_drewN | apply Kd.S_drew)); exact Kd.S_mono (Kd.S_far (p := ⟨gb108, 2, none⟩) (Kd.S_far (p := ⟨gb108, 1, none⟩) (Kd.S_far (p := ⟨gb108, 0, none⟩) (Kd.S_types HO_3.out BK108.out (by decide)) (fun _ hk => hk.2) (.int .i64 ((rd_T56 l0_2 x28_3).f0))) (fun _ hk => hk.2) (.int .i64 ((rd_T56 l0_2 x28_3).f1))) (fun _ hk => hk.2) (.int .i64 ((rd_T56 l0_2 x28_3).f2))) (fun _ hk => trivial)⟩, ⟨by (with_reducible repeat (first | refine blk_drewN ?_ _ | refine blk_drew ?_ | refine blk_alloc ?_ _)); refine blk_far ?_ NB101_108.out _; (with_reducible repeat (first | refine blk_drewN ?_ _ | refine blk_drew ?_ | refine blk_alloc ?_ _)); refine blk_far ?_ NB101_108.out _; (with_reducible repeat (first | refine blk_drewN ?_ _ | refine blk_drew ?_ | refine blk_alloc ?_ _)); refine blk_far ?_ NB101_108.out _; (with_reducible repeat (first | refine blk_drewN ?_ _ | refine blk_drew ?_ | refine blk_alloc ?_ _)); exact BK101.out⟩, ⟨by (with_reducible repeat (first | refine blk_drewN ?_ _ | refine blk_drew ?_ | refine blk_alloc ?_ _)); refine blk_far ?_ NB106_108.out _; (with_reducible repeat (first | refine blk_drewN ?_ _ | refine blk_drew ?_ | refine blk_alloc ?_ _)); refine blk_far ?_ NB106_108.out _; (with_reducible repeat (first | refine blk_drewN ?_ _ | refine blk_drew ?_ | refine blk_alloc ?_ _)); refine blk_far ?_ NB106_108.out _; (with_reducible repeat (first | refine blk_drewN ?_ _ | refine blk_drew ?_ | refine blk_alloc ?_ _)); exact BK106.out⟩, ⟨by repeat (first | (with_reducible first | exact HB.out | apply below_alloc | apply pw_below_drewN | apply below_drew1 | refine below_set ?_ GE101.out | refine below_set ?_ GE106.out | refine below_set ?_ GE108.out) | exact HB.out)⟩⟩
                                · rw [if_neg c41] at H
                                  have c41b0 : (((rd_T56 l0_2 x28_3).f1) == ((rd_T56 l0_2 x13_1).f1)) = false := beq_eq_false_iff_ne.mpr c41
                                  have c41b1 : (((rd_T56 l0_2 x28_3).f1) != ((rd_T56 l0_2 x13_1).f1)) = true := bne_iff_ne.mpr c41
                                  replace H := Option.bind_eq_some_iff.mp H
                                  obtain ⟨t112, A490, H⟩ := H
                                  replace H : (impl_Cut_crosses.l1 k3 x3_1 (wrap64 (x6_3 + t112)) l0_2 (l0_2.length : Int) x13_1 l0_2 (l0_2.length : Int) (wrap64 (x28_3 + 1)) a0_0 a0_1 l0_2 ((rd_T56 l0_2 x13_1).f0) ((rd_T56 l0_2 x13_1).f1) ((rd_T56 l0_2 x13_1).f2)) = some r := H
                                  have A49 := Aside0.mk A490
                                  clear A490
                                  have H' := Aside0.mk H
                                  clear H
                                  have p107 : 0 ≤ (x28_3 : Int) := of_decide_eq_true (by first | (with_reducible assumption) | assumption)
                                  have q107 : x28_3 < (l0_2.length : Int) := of_decide_eq_true (by first | (with_reducible assumption) | assumption)
                                  obtain ⟨ad107, e107, hx107_0, hx107_1, hx107_2⟩ := at_T56 HR0_2.out x28_3 p107 q107
                                  obtain rfl : ad105 = ad107 := (by injection e107)
                                  replace hx107_0 := (HB.out.cell (World.block_lt_of_cell? w _ hx107_0)).trans hx107_0
                                  replace hx107_1 := (HB.out.cell (World.block_lt_of_cell? w _ hx107_1)).trans hx107_1
                                  replace hx107_2 := (HB.out.cell (World.block_lt_of_cell? w _ hx107_2)).trans hx107_2
                                  replace p107 := eq_true p107
                                  replace q107 := eq_true q107
                                  go_wp2_with (first | ((with_reducible refine gate_dst (N := 8) rfl ?_); refine box_event ?hg (N := 8) ?hd (cs := #[.int .i64 0, .int .i64 0, .int .i64 0]) (t := 56) ?hr ?_; (case hd => rfl); (case hg => rfl); (case hr => first | (go_simp; done) | (go_simp; rfl)); intro gb108 hg w50 hbox hb; have n0_ := Aside0.mk (Kd.S_below (by (with_reducible repeat (first | apply Kd.S_alloc | apply Kd.S_drewN | apply Kd.S_drew)); exact HO_3.out) hb); have n1_ := Aside0.mk (blk_below (g := gb101) (o := .cells #[.int .i64 a0_0, .int .i64 a0_1, .slice (some ad105) l0_2.length c0_2] 37 (0, 0)) (by (with_reducible repeat (first | refine blk_drewN ?_ _ | refine blk_drew ?_ | refine blk_alloc ?_ _)); exact BK101.out) hb); have n2_ := Aside0.mk (blk_below (g := gb106) (o := .cells #[.int .i64 ((rd_T56 l0_2 x13_1).f0), .int .i64 ((rd_T56 l0_2 x13_1).f1), .int .i64 ((rd_T56 l0_2 x13_1).f2)] 56 (0, 0)) (by (with_reducible repeat (first | refine blk_drewN ?_ _ | refine blk_drew ?_ | refine blk_alloc ?_ _)); exact BK106.out) hb); have n3_ := Aside0.mk (below_step (by repeat (first | (with_reducible first | exact HB.out | apply below_alloc | apply pw_below_drewN | apply below_drew1 | refine below_set ?_ GE101.out | refine below_set ?_ GE106.out) | exact HB.out)) hb); have n4_ := Aside0.mk (hbox); have n5_ := Aside0.mk ((by rw [hg]; exact (below_size (by repeat (first | (with_reducible first | exact HB.out | apply below_alloc | apply pw_below_drewN | apply below_drew1 | refine below_set ?_ GE101.out | refine below_set ?_ GE106.out) | exact HB.out))) : w.heap.size ≤ gb108)); have n6_ := Aside0.mk ((by rw [hg]; exact (below_size (by repeat (first | (with_reducible first | exact HB.out | apply below_alloc | apply pw_below_drewN | apply below_drew1 | refine below_set ?_ GE101.out | refine below_set ?_ GE106.out) | exact HB.out))) : w.heap.size ≤ gb108)); have n7_ := Aside0.mk ((by rw [hg]; exact Nat.ne_of_lt (blk_lt (g := gb101) (o := .cells #[.int .i64 a0_0, .int .i64 a0_1, .slice (some ad105) l0_2.length c0_2] 37 (0, 0)) (by (with_reducible repeat (first | refine blk_drewN ?_ _ | refine blk_drew ?_ | refine blk_alloc ?_ _)); exact BK101.out)) : gb101 ≠ gb108)); have n8_ := Aside0.mk ((by rw [hg]; exact Nat.ne_of_gt (blk_lt (g := gb101) (o := .cells #[.int .i64 a0_0, .int .i64 a0_1, .slice (some ad105) l0_2.length c0_2] 37 (0, 0)) (by (with_reducible repeat (first | refine blk_drewN ?_ _ | refine blk_drew ?_ | refine blk_alloc ?_ _)); exact BK101.out)) : gb108 ≠ gb101)); have n9_ := Aside0.mk ((by rw [hg]; exact Nat.ne_of_lt (blk_lt (g := gb106) (o := .cells #[.int .i64 ((rd_T56 l0_2 x13_1).f0), .int .i64 ((rd_T56 l0_2 x13_1).f1), .int .i64 ((rd_T56 l0_2 x13_1).f2)] 56 (0, 0)) (by (with_reducible repeat (first | refine blk_drewN ?_ _ | refine blk_drew ?_ | refine blk_alloc ?_ _)); exact BK106.out)) : gb106 ≠ gb108)); have n10_ := Aside0.mk ((by rw [hg]; exact Nat.ne_of_gt (blk_lt (g := gb106) (o := .cells #[.int .i64 ((rd_T56 l0_2 x13_1).f0), .int .i64 ((rd_T56 l0_2 x13_1).f1), .int .i64 ((rd_T56 l0_2 x13_1).f2)] 56 (0, 0)) (by (with_reducible repeat (first | refine blk_drewN ?_ _ | refine blk_drew ?_ | refine blk_alloc ?_ _)); exact BK106.out)) : gb108 ≠ gb106)); clear HO_3; clear BK101; clear BK106; clear HB; have HO_3 := n0_; have BK101 := n1_; have BK106 := n2_; have HB := n3_; have BK108 := n4_; have GW108 := n5_; have GE108 := n6_; have NB101_108 := n7_; have NB108_101 := n8_; have NB106_108 := n9_; have NB108_106 := n10_; clear n0_ n1_ n2_ n3_ n4_ n5_ n6_ n7_ n8_ n9_ n10_; clear hb hbox hg; have hnb51 := NB108_101.out; have hnc51 := NB101_108.out; have hnb52 := NB108_106.out; have hnc52 := NB106_108.out; have hcz53_0 : w50.cell? ⟨gb108, 0, none⟩ = some (.int .i64 0) := (blk_cell BK108.out 0).trans rfl; have hcz53_1 : w50.cell? ⟨gb108, 1, none⟩ = some (.int .i64 0) := (blk_cell BK108.out 1).trans rfl; have hcz53_2 : w50.cell? ⟨gb108, 2, none⟩ = some (.int .i64 0) := (blk_cell BK108.out 2).trans rfl; have hfz53_0 := blk_frozen BK108.out 0; have hfz53_1 := blk_frozen BK108.out 1; have hfz53_2 := blk_frozen BK108.out 2; have hnb54 := NB106_101.out; have hnc54 := NB101_106.out; have hcz55_0 : w50.cell? ⟨gb106, 0, none⟩ = some (.int .i64 ((rd_T56 l0_2 x13_1).f0)) := (blk_cell BK106.out 0).trans rfl; have hcz55_1 : w50.cell? ⟨gb106, 1, none⟩ = some (.int .i64 ((rd_T56 l0_2 x13_1).f1)) := (blk_cell BK106.out 1).trans rfl; have hcz55_2 : w50.cell? ⟨gb106, 2, none⟩ = some (.int .i64 ((rd_T56 l0_2 x13_1).f2)) := (blk_cell BK106.out 2).trans rfl; have hfz55_0 := blk_frozen BK106.out 0; have hfz55_1 := blk_frozen BK106.out 1; have hfz55_2 := blk_frozen BK106.out 2) | ((with_reducible refine gate_callee (f := 73) rfl ?_); refine goesL_ (some 65) rfl rfl Try.func73 (by kernel_rfl) rfl #[.bool ((wrap64 (((rd_T56 l0_2 x28_3).f1) + ((rd_T56 l0_2 x28_3).f2))) == ((rd_T56 l0_2 x13_1).f1))] rfl (by (try simp only [List.map_toArray, List.map_cons, List.map_nil]); first | done | rfl | (simp only [List.length_drop, List.length_take]; rfl)) ?_; (with_reducible refine (impl_bit.calls ((wrap64 (((rd_T56 l0_2 x28_3).f1) + ((rd_T56 l0_2 x28_3).f2))) == ((rd_T56 l0_2 x13_1).f1)) t112 _ A49.out).mono ?_); rintro e w' ⟨rfl, ⟨nd, rfl⟩⟩; refine ⟨_, rfl, ?_⟩))
                                  go_roundg k3
                                  case measure => have := HK1.out; have := HJ8.out; have := HK3.out; omega
                                  case rel => exact ⟨(wrap64 (x6_3 + t112)), (wrap64 (x28_3 + 1)), (by first | rfl | (simp; done) | (simp [*]; done)), (by first | rfl | (simp; done) | (simp [*]; done)), H', ⟨by have := HK1.out; have := HJ8.out; have := HK3.out; omega⟩, ⟨by (with_reducible repeat (first | apply Kd.S_alloc | apply Kd.S_drewN | apply Kd.S_drew)); exact Kd.S_mono (Kd.S_far (p := ⟨gb108, 2, none⟩) (Kd.S_far (p := ⟨gb108, 1, none⟩) (Kd.S_far (p := ⟨gb108, 0, none⟩) (Kd.S_types HO_3.out BK108.out (by decide)) (fun _ hk => hk.2) (.int .i64 ((rd_T56 l0_2 x28_3).f0))) (fun _ hk => hk.2) (.int .i64 ((rd_T56 l0_2 x28_3).f1))) (fun _ hk => hk.2) (.int .i64 ((rd_T56 l0_2 x28_3).f2))) (fun _ hk => trivial)⟩, ⟨by (with_reducible repeat (first | refine blk_drewN ?_ _ | refine blk_drew ?_ | refine blk_alloc ?_ _)); refine blk_far ?_ NB101_108.out _; (with_reducible repeat (first | refine blk_drewN ?_ _ | refine blk_drew ?_ | refine blk_alloc ?_ _)); refine blk_far ?_ NB101_108.out _; (with_reducible repeat (first | refine blk_drewN ?_ _ | refine blk_drew ?_ | refine blk_alloc ?_ _)); refine blk_far ?_ NB101_108.out _; (with_reducible repeat (first | refine blk_drewN ?_ _ | refine blk_drew ?_ | refine blk_alloc ?_ _)); exact BK101.out⟩, ⟨by (with_reducible repeat (first | refine blk_drewN ?_ _ | refine blk_drew ?_ | refine blk_alloc ?_ _)); refine blk_far ?_ NB106_108.out _; (with_reducible repeat (first | refine blk_drewN ?_ _ | refine blk_drew ?_ | refine blk_alloc ?_ _)); refine blk_far ?_ NB106_108.out _; (with_reducible repeat (first | refine blk_drewN ?_ _ | refine blk_drew ?_ | refine blk_alloc ?_ _)); refine blk_far ?_ NB106_108.out _; (with_reducible repeat (first | refine blk_drewN ?_ _ | refine blk_drew ?_ | refine blk_alloc ?_ _)); exact BK106.out⟩, ⟨by repeat (first | (with_reducible first | exact HB.out | apply below_alloc | apply pw_below_drewN | apply below_drew1 | refine below_set ?_ GE101.out | refine below_set ?_ GE106.out | refine below_set ?_ GE108.out) | exact HB.out)⟩⟩
                              · rw [if_neg c40] at H
                                have c40b0 : ((wrap64 (((rd_T56 l0_2 x28_3).f0) + ((rd_T56 l0_2 x28_3).f2))) == ((rd_T56 l0_2 x13_1).f0)) = false := beq_eq_false_iff_ne.mpr c40
                                have c40b1 : ((wrap64 (((rd_T56 l0_2 x28_3).f0) + ((rd_T56 l0_2 x28_3).f2))) != ((rd_T56 l0_2 x13_1).f0)) = true := bne_iff_ne.mpr c40
                                replace H := Option.bind_eq_some_iff.mp H
                                obtain ⟨t113, A560, H⟩ := H
                                replace H : (impl_Cut_crosses.l1 k3 x3_1 (wrap64 (x6_3 + t113)) l0_2 (l0_2.length : Int) x13_1 l0_2 (l0_2.length : Int) (wrap64 (x28_3 + 1)) a0_0 a0_1 l0_2 ((rd_T56 l0_2 x13_1).f0) ((rd_T56 l0_2 x13_1).f1) ((rd_T56 l0_2 x13_1).f2)) = some r := H
                                have A56 := Aside0.mk A560
                                clear A560
                                have H' := Aside0.mk H
                                clear H
                                have p107 : 0 ≤ (x28_3 : Int) := of_decide_eq_true (by first | (with_reducible assumption) | assumption)
                                have q107 : x28_3 < (l0_2.length : Int) := of_decide_eq_true (by first | (with_reducible assumption) | assumption)
                                obtain ⟨ad107, e107, hx107_0, hx107_1, hx107_2⟩ := at_T56 HR0_2.out x28_3 p107 q107
                                obtain rfl : ad105 = ad107 := (by injection e107)
                                replace hx107_0 := (HB.out.cell (World.block_lt_of_cell? w _ hx107_0)).trans hx107_0
                                replace hx107_1 := (HB.out.cell (World.block_lt_of_cell? w _ hx107_1)).trans hx107_1
                                replace hx107_2 := (HB.out.cell (World.block_lt_of_cell? w _ hx107_2)).trans hx107_2
                                replace p107 := eq_true p107
                                replace q107 := eq_true q107
                                go_wp2_with (first | ((with_reducible refine gate_dst (N := 8) rfl ?_); refine box_event ?hg (N := 8) ?hd (cs := #[.int .i64 0, .int .i64 0, .int .i64 0]) (t := 56) ?hr ?_; (case hd => rfl); (case hg => rfl); (case hr => first | (go_simp; done) | (go_simp; rfl)); intro gb108 hg w57 hbox hb; have n0_ := Aside0.mk (Kd.S_below (by (with_reducible repeat (first | apply Kd.S_alloc | apply Kd.S_drewN | apply Kd.S_drew)); exact HO_3.out) hb); have n1_ := Aside0.mk (blk_below (g := gb101) (o := .cells #[.int .i64 a0_0, .int .i64 a0_1, .slice (some ad105) l0_2.length c0_2] 37 (0, 0)) (by (with_reducible repeat (first | refine blk_drewN ?_ _ | refine blk_drew ?_ | refine blk_alloc ?_ _)); exact BK101.out) hb); have n2_ := Aside0.mk (blk_below (g := gb106) (o := .cells #[.int .i64 ((rd_T56 l0_2 x13_1).f0), .int .i64 ((rd_T56 l0_2 x13_1).f1), .int .i64 ((rd_T56 l0_2 x13_1).f2)] 56 (0, 0)) (by (with_reducible repeat (first | refine blk_drewN ?_ _ | refine blk_drew ?_ | refine blk_alloc ?_ _)); exact BK106.out) hb); have n3_ := Aside0.mk (below_step (by repeat (first | (with_reducible first | exact HB.out | apply below_alloc | apply pw_below_drewN | apply below_drew1 | refine below_set ?_ GE101.out | refine below_set ?_ GE106.out) | exact HB.out)) hb); have n4_ := Aside0.mk (hbox); have n5_ := Aside0.mk ((by rw [hg]; exact (below_size (by repeat (first | (with_reducible first | exact HB.out | apply below_alloc | apply pw_below_drewN | apply below_drew1 | refine below_set ?_ GE101.out | refine below_set ?_ GE106.out) | exact HB.out))) : w.heap.size ≤ gb108)); have n6_ := Aside0.mk ((by rw [hg]; exact (below_size (by repeat (first | (with_reducible first | exact HB.out | apply below_alloc | apply pw_below_drewN | apply below_drew1 | refine below_set ?_ GE101.out | refine below_set ?_ GE106.out) | exact HB.out))) : w.heap.size ≤ gb108)); have n7_ := Aside0.mk ((by rw [hg]; exact Nat.ne_of_lt (blk_lt (g := gb101) (o := .cells #[.int .i64 a0_0, .int .i64 a0_1, .slice (some ad105) l0_2.length c0_2] 37 (0, 0)) (by (with_reducible repeat (first | refine blk_drewN ?_ _ | refine blk_drew ?_ | refine blk_alloc ?_ _)); exact BK101.out)) : gb101 ≠ gb108)); have n8_ := Aside0.mk ((by rw [hg]; exact Nat.ne_of_gt (blk_lt (g := gb101) (o := .cells #[.int .i64 a0_0, .int .i64 a0_1, .slice (some ad105) l0_2.length c0_2] 37 (0, 0)) (by (with_reducible repeat (first | refine blk_drewN ?_ _ | refine blk_drew ?_ | refine blk_alloc ?_ _)); exact BK101.out)) : gb108 ≠ gb101)); have n9_ := Aside0.mk ((by rw [hg]; exact Nat.ne_of_lt (blk_lt (g := gb106) (o := .cells #[.int .i64 ((rd_T56 l0_2 x13_1).f0), .int .i64 ((rd_T56 l0_2 x13_1).f1), .int .i64 ((rd_T56 l0_2 x13_1).f2)] 56 (0, 0)) (by (with_reducible repeat (first | refine blk_drewN ?_ _ | refine blk_drew ?_ | refine blk_alloc ?_ _)); exact BK106.out)) : gb106 ≠ gb108)); have n10_ := Aside0.mk ((by rw [hg]; exact Nat.ne_of_gt (blk_lt (g := gb106) (o := .cells #[.int .i64 ((rd_T56 l0_2 x13_1).f0), .int .i64 ((rd_T56 l0_2 x13_1).f1), .int .i64 ((rd_T56 l0_2 x13_1).f2)] 56 (0, 0)) (by (with_reducible repeat (first | refine blk_drewN ?_ _ | refine blk_drew ?_ | refine blk_alloc ?_ _)); exact BK106.out)) : gb108 ≠ gb106)); clear HO_3; clear BK101; clear BK106; clear HB; have HO_3 := n0_; have BK101 := n1_; have BK106 := n2_; have HB := n3_; have BK108 := n4_; have GW108 := n5_; have GE108 := n6_; have NB101_108 := n7_; have NB108_101 := n8_; have NB106_108 := n9_; have NB108_106 := n10_; clear n0_ n1_ n2_ n3_ n4_ n5_ n6_ n7_ n8_ n9_ n10_; clear hb hbox hg; have hnb58 := NB108_101.out; have hnc58 := NB101_108.out; have hnb59 := NB108_106.out; have hnc59 := NB106_108.out; have hcz60_0 : w57.cell? ⟨gb108, 0, none⟩ = some (.int .i64 0) := (blk_cell BK108.out 0).trans rfl; have hcz60_1 : w57.cell? ⟨gb108, 1, none⟩ = some (.int .i64 0) := (blk_cell BK108.out 1).trans rfl; have hcz60_2 : w57.cell? ⟨gb108, 2, none⟩ = some (.int .i64 0) := (blk_cell BK108.out 2).trans rfl; have hfz60_0 := blk_frozen BK108.out 0; have hfz60_1 := blk_frozen BK108.out 1; have hfz60_2 := blk_frozen BK108.out 2; have hnb61 := NB106_101.out; have hnc61 := NB101_106.out; have hcz62_0 : w57.cell? ⟨gb106, 0, none⟩ = some (.int .i64 ((rd_T56 l0_2 x13_1).f0)) := (blk_cell BK106.out 0).trans rfl; have hcz62_1 : w57.cell? ⟨gb106, 1, none⟩ = some (.int .i64 ((rd_T56 l0_2 x13_1).f1)) := (blk_cell BK106.out 1).trans rfl; have hcz62_2 : w57.cell? ⟨gb106, 2, none⟩ = some (.int .i64 ((rd_T56 l0_2 x13_1).f2)) := (blk_cell BK106.out 2).trans rfl; have hfz62_0 := blk_frozen BK106.out 0; have hfz62_1 := blk_frozen BK106.out 1; have hfz62_2 := blk_frozen BK106.out 2) | ((with_reducible refine gate_callee (f := 73) rfl ?_); refine goesL_ (some 65) rfl rfl Try.func73 (by kernel_rfl) rfl #[.bool false] rfl (by (try simp only [List.map_toArray, List.map_cons, List.map_nil]); first | done | rfl | (simp only [List.length_drop, List.length_take]; rfl)) ?_; (with_reducible refine (impl_bit.calls false t113 _ A56.out).mono ?_); rintro e w' ⟨rfl, ⟨nd, rfl⟩⟩; refine ⟨_, rfl, ?_⟩))
                                go_roundg k3
                                case measure => have := HK1.out; have := HJ8.out; have := HK3.out; omega
                                case rel => exact ⟨(wrap64 (x6_3 + t113)), (wrap64 (x28_3 + 1)), (by first | rfl | (simp; done) | (simp [*]; done)), (by first | rfl | (simp; done) | (simp [*]; done)), H', ⟨by have := HK1.out; have := HJ8.out; have := HK3.out; omega⟩, ⟨by (with_reducible repeat (first | apply Kd.S_alloc | apply Kd.S_drewN | apply Kd.S_drew)); exact Kd.S_mono (Kd.S_far (p := ⟨gb108, 2, none⟩) (Kd.S_far (p := ⟨gb108, 1, none⟩) (Kd.S_far (p := ⟨gb108, 0, none⟩) (Kd.S_types HO_3.out BK108.out (by decide)) (fun _ hk => hk.2) (.int .i64 ((rd_T56 l0_2 x28_3).f0))) (fun _ hk => hk.2) (.int .i64 ((rd_T56 l0_2 x28_3).f1))) (fun _ hk => hk.2) (.int .i64 ((rd_T56 l0_2 x28_3).f2))) (fun _ hk => trivial)⟩, ⟨by (with_reducible repeat (first | refine blk_drewN ?_ _ | refine blk_drew ?_ | refine blk_alloc ?_ _)); refine blk_far ?_ NB101_108.out _; (with_reducible repeat (first | refine blk_drewN ?_ _ | refine blk_drew ?_ | refine blk_alloc ?_ _)); refine blk_far ?_ NB101_108.out _; (with_reducible repeat (first | refine blk_drewN ?_ _ | refine blk_drew ?_ | refine blk_alloc ?_ _)); refine blk_far ?_ NB101_108.out _; (with_reducible repeat (first | refine blk_drewN ?_ _ | refine blk_drew ?_ | refine blk_alloc ?_ _)); exact BK101.out⟩, ⟨by (with_reducible repeat (first | refine blk_drewN ?_ _ | refine blk_drew ?_ | refine blk_alloc ?_ _)); refine blk_far ?_ NB106_108.out _; (with_reducible repeat (first | refine blk_drewN ?_ _ | refine blk_drew ?_ | refine blk_alloc ?_ _)); refine blk_far ?_ NB106_108.out _; (with_reducible repeat (first | refine blk_drewN ?_ _ | refine blk_drew ?_ | refine blk_alloc ?_ _)); refine blk_far ?_ NB106_108.out _; (with_reducible repeat (first | refine blk_drewN ?_ _ | refine blk_drew ?_ | refine blk_alloc ?_ _)); exact BK106.out⟩, ⟨by repeat (first | (with_reducible first | exact HB.out | apply below_alloc | apply pw_below_drewN | apply below_drew1 | refine below_set ?_ GE101.out | refine below_set ?_ GE106.out | refine below_set ?_ GE108.out) | exact HB.out)⟩⟩
                          · rw [if_neg c23] at H
                            exact absurd H (by simp)
                        · rw [if_neg c22] at H
                          exact absurd H (by simp)
                      · rw [if_neg c21] at H
                        have c21b0 : decide (x28_3 < (l0_2.length : Int)) = false := decide_eq_false c21
                        clear c21
                        by_cases c63 : x6_3 = 4
                        · rw [if_pos c63] at H
                          have c63b0 : (x6_3 == 4) = true := beq_iff_eq.mpr c63
                          have c63b1 : (x6_3 != 4) = false := bne_eq_false_iff_eq.mpr c63
                          clear c63
                          obtain ⟨y114, hy114⟩ : ∃ y_ : List Int, y_ = (([((rd_T56 l0_2 x13_1).f0), ((rd_T56 l0_2 x13_1).f1)] : List Int)) := ⟨_, rfl⟩
                          replace H : (if x3_1.length < 5864062014805 then (impl_Cut_crosses.l0 k3 (x3_1 ++ [y114]) l0_2 (l0_2.length : Int) (wrap64 (x13_1 + 1)) a0_0 a0_1 l0_2) else (none)) = some r := by first | (rw [hy114]; with_reducible exact H) | (have H2_ := (Option.bind_some _ _).symm.trans H; rw [hy114]; with_reducible exact H2_) | (have H2_ := (Option.bind_some _ _).symm.trans H; with_reducible exact H2_) | with_reducible exact H | (rw [hy114]; exact H) | exact H
                          have Ny114 := Aside0.mk hy114
                          clear hy114
                          by_cases c64 : x3_1.length < 5864062014805
                          · rw [if_pos c64] at H
                            have LMc64 := Aside0.mk c64
                            clear c64
                            obtain ⟨y117, hy117⟩ : ∃ y_ : List (List Int), y_ = (x3_1 ++ [y114]) := ⟨_, rfl⟩
                            replace H : (impl_Cut_crosses.l0 k3 y117 l0_2 (l0_2.length : Int) (wrap64 (x13_1 + 1)) a0_0 a0_1 l0_2) = some r := by first | (rw [hy117]; with_reducible exact H) | (have H2_ := (Option.bind_some _ _).symm.trans H; rw [hy117]; with_reducible exact H2_) | (have H2_ := (Option.bind_some _ _).symm.trans H; with_reducible exact H2_) | with_reducible exact H | (rw [hy117]; exact H) | exact H
                            have Ny117 := Aside0.mk hy117
                            clear hy117
                            have H' := Aside0.mk H
                            clear H
                            have hnb65 := NB106_101.out
                            have hnc65 := NB101_106.out
                            have hcz66_0 : wr.cell? ⟨gb106, 0, none⟩ = some (.int .i64 ((rd_T56 l0_2 x13_1).f0)) := (blk_cell BK106.out 0).trans rfl
                            have hcz66_1 : wr.cell? ⟨gb106, 1, none⟩ = some (.int .i64 ((rd_T56 l0_2 x13_1).f1)) := (blk_cell BK106.out 1).trans rfl
                            have hcz66_2 : wr.cell? ⟨gb106, 2, none⟩ = some (.int .i64 ((rd_T56 l0_2 x13_1).f2)) := (blk_cell BK106.out 2).trans rfl
                            have hfz66_0 := blk_frozen BK106.out 0
                            have hfz66_1 := blk_frozen BK106.out 1
                            have hfz66_2 := blk_frozen BK106.out 2
                            go_wp2_with (first | ((with_reducible refine gate_dst (N := 75) rfl ?_); refine Kd.R_lit (Kd.int .i64) _ 3 ?hg (N := 75) ?hd (xs := ([((rd_T56 l0_2 x13_1).f0), ((rd_T56 l0_2 x13_1).f1)] : List Int)) (inner := [.int .i64 ((rd_T56 l0_2 x13_1).f0), .int .i64 ((rd_T56 l0_2 x13_1).f1)]) (ok := fun _ => True) (okp := fun _ => True) ?hr ?hp (fun _ hk => hk) trivial (Below.refl _ _) (Nat.le_refl _) (by simp) ?_; (case hd => rfl); (case hg => rfl); (case hr => first | (go_simp; done) | (go_simp; rfl)); (case hp => exact (Reps.one (show Kd.M (Kd.int .i64) _ _ _ ((rd_T56 l0_2 x13_1).f0) [.int .i64 ((rd_T56 l0_2 x13_1).f0)] from rfl) (Reps.one (show Kd.M (Kd.int .i64) _ _ _ ((rd_T56 l0_2 x13_1).f1) [.int .i64 ((rd_T56 l0_2 x13_1).f1)] from rfl) (Reps.none _ _)))); intro v115 w67 ho68 hb hg_ hnew_; clear hg_ hnew_; (first | rw [← Ny114.out] at ho68 | (simp only [Int.reduceToNat] at ho68; rw [← Ny114.out] at ho68)); have n0_ := Aside0.mk (Kd.S_elder' (by (with_reducible repeat (first | apply Kd.S_alloc | apply Kd.S_drewN | apply Kd.S_drew)); exact HO_3.out) (Kd.R_base ho68) hb); have n1_ := Aside0.mk (Kd.R_lower ho68 (below_size (by repeat (first | (with_reducible first | exact HB.out | apply below_alloc | apply pw_below_drewN | apply below_drew1 | refine below_set ?_ GE101.out | refine below_set ?_ GE106.out) | exact HB.out)))); have n2_ := Aside0.mk (blk_below (g := gb101) (o := .cells #[.int .i64 a0_0, .int .i64 a0_1, .slice (some ad105) l0_2.length c0_2] 37 (0, 0)) (by (with_reducible repeat (first | refine blk_drewN ?_ _ | refine blk_drew ?_ | refine blk_alloc ?_ _)); exact BK101.out) hb); have n3_ := Aside0.mk (blk_below (g := gb106) (o := .cells #[.int .i64 ((rd_T56 l0_2 x13_1).f0), .int .i64 ((rd_T56 l0_2 x13_1).f1), .int .i64 ((rd_T56 l0_2 x13_1).f2)] 56 (0, 0)) (by (with_reducible repeat (first | refine blk_drewN ?_ _ | refine blk_drew ?_ | refine blk_alloc ?_ _)); exact BK106.out) hb); have n4_ := Aside0.mk (below_step (by repeat (first | (with_reducible first | exact HB.out | apply below_alloc | apply pw_below_drewN | apply below_drew1 | refine below_set ?_ GE101.out | refine below_set ?_ GE106.out) | exact HB.out)) hb); clear HO_3; clear BK101; clear BK106; clear HB; have HO_3 := n0_; have HO116 := n1_; have BK101 := n2_; have BK106 := n3_; have HB := n4_; clear n0_ n1_ n2_ n3_ n4_; clear hb ho68; obtain ⟨Ao70, co70, eo70⟩ := Kd.R_slice HO116.out; subst eo70) | ((with_reducible refine gate_builtin (b := .append) (xs := #[.tmp 70, .tmp 76]) rfl ?_); at_builtin; refine Kd.S_append (Kd.slice 3 (Kd.int .i64)) (w0 := w) w.heap.size rfl (.tmp 70) (.tmp 76) 51 22 (.slice none 0 0) 24 rfl Try.underlying51 info22 rfl (by decide) (by omega) u3 x3_1 y114 [.slice Ao70 y114.length co70] (fun _ => True) (fun k_ => some k_ = (.slice Ao70 y114.length co70 : Value).ownBlock) rfl rfl ?aP (fun k_ hk_ => ((Kd.R_mono (ok' := fun k_ => ((fun _ => True)) k_ ∧ some k_ ≠ (u3 : Value).ownBlock) (Kd.R_apart' (HO116.out) (Kd.S_typed HO_3.out) (by decide)) (fun k_ hk => ⟨trivial, hk.2⟩))).1 k_ hk_.symm) ?aF ?aO ?aB ?aS ?aL ?_; (case aP => exact Kd.M_row (Kd.R_mono (Kd.R_tight rfl (Kd.R_mono (ok' := fun k_ => ((fun _ => True)) k_ ∧ some k_ ≠ (u3 : Value).ownBlock) (Kd.R_apart' (HO116.out) (Kd.S_typed HO_3.out) (by decide)) (fun k_ hk => ⟨trivial, hk.2⟩))) (fun _ h_ => h_))); (case aB => exact (by repeat (first | (with_reducible first | exact HB.out | apply below_alloc | apply pw_below_drewN | apply below_drew1 | refine below_set ?_ GE101.out | refine below_set ?_ GE106.out) | exact HB.out))); (case aF => exact (fun _ _ => trivial)); (case aO => exact (by (with_reducible repeat (first | apply Kd.S_alloc | apply Kd.S_drewN | apply Kd.S_drew)); exact Kd.S_mono HO_3.out (fun k_ hk => ⟨trivial, fun e_ => hk.2 e_⟩))); (case aS => exact (below_size (by repeat (first | (with_reducible first | exact HB.out | apply below_alloc | apply pw_below_drewN | apply below_drew1 | refine below_set ?_ GE101.out | refine below_set ?_ GE106.out) | exact HB.out)))); (case aL => have := LMc64.out; omega); intro v118 w69 ho hb hg hat; rw [← Ny117.out] at ho; have n0_ := Aside0.mk (blk_grown (g := gb101) (o := .cells #[.int .i64 a0_0, .int .i64 a0_1, .slice (some ad105) l0_2.length c0_2] 37 (0, 0)) (by (with_reducible repeat (first | refine blk_drewN ?_ _ | refine blk_drew ?_ | refine blk_alloc ?_ _)); exact BK101.out) hg (Kd.S_ne HO_3.out BK101.out (by decide))); have n1_ := Aside0.mk (blk_grown (g := gb106) (o := .cells #[.int .i64 ((rd_T56 l0_2 x13_1).f0), .int .i64 ((rd_T56 l0_2 x13_1).f1), .int .i64 ((rd_T56 l0_2 x13_1).f2)] 56 (0, 0)) (by (with_reducible repeat (first | refine blk_drewN ?_ _ | refine blk_drew ?_ | refine blk_alloc ?_ _)); exact BK106.out) hg (Kd.S_ne HO_3.out BK106.out (by decide))); have n2_ := Aside0.mk (hb); have n3_ := Aside0.mk (ho); clear BK101; clear BK106; clear HB; clear HO_3; clear HO116; have BK101 := n0_; have BK106 := n1_; have HB := n2_; have HO119 := n3_; clear n0_ n1_ n2_ n3_; clear ho hb hg hat))
                            go_roundg k3
                            case measure => have := HK1.out; have := HJ8.out; have := HK3.out; omega
                            case rel => exact ⟨(y117), (wrap64 (x13_1 + 1)), (by first | rfl | (simp; done) | (simp [*]; done)), H', ⟨by have := HK1.out; have := HJ8.out; have := HK3.out; omega⟩, ⟨by (with_reducible repeat (first | apply Kd.S_alloc | apply Kd.S_drewN | apply Kd.S_drew)); exact HO119.out⟩, ⟨by (with_reducible repeat (first | refine blk_drewN ?_ _ | refine blk_drew ?_ | refine blk_alloc ?_ _)); exact BK101.out⟩, ⟨by repeat (first | (with_reducible first | exact HB.out | apply below_alloc | apply pw_below_drewN | apply below_drew1 | refine below_set ?_ GE101.out | refine below_set ?_ GE106.out) | exact HB.out)⟩⟩
                          · rw [if_neg c64] at H
                            exact absurd H (by simp)
                        · rw [if_neg c63] at H
                          have c63b0 : (x6_3 == 4) = false := beq_eq_false_iff_ne.mpr c63
                          have c63b1 : (x6_3 != 4) = true := bne_iff_ne.mpr c63
                          have H' := Aside0.mk H
                          clear H
                          go_wp2
                          go_roundg k3
                          case measure => have := HK1.out; have := HJ8.out; have := HK3.out; omega
                          case rel => exact ⟨(x3_1), (wrap64 (x13_1 + 1)), (by first | rfl | (simp; done) | (simp [*]; done)), H', ⟨by have := HK1.out; have := HJ8.out; have := HK3.out; omega⟩, ⟨by (with_reducible repeat (first | apply Kd.S_alloc | apply Kd.S_drewN | apply Kd.S_drew)); exact HO_3.out⟩, ⟨by (with_reducible repeat (first | refine blk_drewN ?_ _ | refine blk_drew ?_ | refine blk_alloc ?_ _)); exact BK101.out⟩, ⟨by repeat (first | (with_reducible first | exact HB.out | apply below_alloc | apply pw_below_drewN | apply below_drew1 | refine below_set ?_ GE101.out | refine below_set ?_ GE106.out) | exact HB.out)⟩⟩
          · rw [if_neg c8] at H
            exact absurd H (by simp)
        · rw [if_neg c7] at H
          exact absurd H (by simp)
      · rw [if_neg c6] at H
        have c6b0 : decide (x13_1 < (l0_2.length : Int)) = false := decide_eq_false c6
        clear c6
        obtain rfl := Option.some.inj H
        go_wp2
        go_ret
        exact ⟨_, by first | rfl | (simp [errW_none, errW_some] <;> rfl) | (simp [*, errW_none, errW_some] <;> rfl), by (with_reducible repeat (first | apply Kd.S_alloc | apply Kd.S_drewN | apply Kd.S_drew)); exact HO_3.out, by repeat (first | (with_reducible first | exact HB.out | apply below_alloc | apply pw_below_drewN | apply below_drew1 | refine below_set ?_ GE101.out) | exact HB.out)⟩
end Go.Proofs.Ytdfcljfajiihdaa.P

namespace Go.Proofs.Ytdfcljfajiihdaa.Pure
set_option linter.unusedVariables false
set_option linter.unusedSimpArgs false
open Go.RowKit Go.Proofs.Ytdfcljfajiihdaa.P Go.Proofs.YtdfcljfajiihdaaW.PrintWords Go.Proofs.YtdfcljfajiihdaaW.PrintLast Go.Proofs.YtdfcljfajiihdaaW.PrintMore Go.Proofs.Ytdfcljfajiihdaa.Aid Go.Proofs.Ytdfcljfajiihdaa.T
def smallQ (q : Sq) : Bool := decide (1 ≤ q.f2) && decide (q.f2 ≤ 1000) && (decide (0 ≤ q.f0) && decide (q.f0 ≤ 1000)) && (decide (0 ≤ q.f1) && decide (q.f1 ≤ 1000))
theorem smallQ_iff {q : Sq} : smallQ q = true ↔ ((1 ≤ q.f2 ∧ q.f2 ≤ 1000) ∧ 0 ≤ q.f0 ∧ q.f0 ≤ 1000) ∧ 0 ≤ q.f1 ∧ q.f1 ≤ 1000 := by simp [smallQ]
def smallL (l : List Sq) : Bool := decide (l.length ≤ 1000) && l.all smallQ
def atC (x y : Int) (t : Sq) : Bool := (decide (x = t.f0) || decide (x = t.f0 + t.f2)) && (decide (y = t.f1) || decide (y = t.f1 + t.f2))
def corn (l : List Sq) (x y : Int) : Nat := l.countP (atC x y)
def isX (l : List Sq) (q : Sq) : Bool := decide (corn l q.f0 q.f1 = 4)
theorem rdsq (l : List Sq) (i : Nat) : rd_T56 l (i : Int) = nq l i := by unfold rd_T56 nq; rw [Int.toNat_natCast]; rfl
theorem drop_q (l : List Sq) (i : Nat) (hi : i < l.length) : l.drop i = nq l i :: l.drop (i + 1) := by
  rw [List.drop_eq_getElem_cons hi, nq_get l i hi]
theorem corners_l (l : List Sq) (hl : l.length ≤ 1000) (hs : ∀ q ∈ l, smallQ q = true) (x y : Int) : ∀ (d i : Nat) (n : Int), i + d = l.length → 0 ≤ n → n ≤ i → Ev (fun k => spec_cuCorners.l0 k x y n l l.length i) (n + ((l.drop i).countP (atC x y) : Nat))
  | 0, i, n, hd, h0, hn => by
    rw [List.drop_eq_nil_of_le (by omega)]
    exact Ev.step (fun _ => spec_cuCorners.l0.eq_2 ..) (ev_neg (by omega) (ev_some (by simp)))
  | d + 1, i, n, hd, h0, hn => by
    have hi : i < l.length := by omega
    have hq := smallQ_iff.1 (hs _ (nq_mem l i hi))
    have ih1 := corners_l l hl hs x y d (i + 1) (n + 1) (by omega) (by omega) (by omega)
    have ih0 := corners_l l hl hs x y d (i + 1) n (by omega) h0 (by omega)
    refine Ev.step (fun _ => spec_cuCorners.l0.eq_2 ..) (ev_pos (by omega) (ev_pos (by omega) (ev_pos (by omega) ?_)))
    rw [rdsq, drop_q l i hi, List.countP_cons, w64 (e := (i : Int) + 1) (by omega) (by omega), w64 (e := n + 1) (by omega) (by omega), w64 (e := (nq l i).f1 + (nq l i).f2) (by omega) (by omega), w64 (e := (nq l i).f0 + (nq l i).f2) (by omega) (by omega)]
    have e1 : atC x y (nq l i) = true → (n + 1 + ((l.drop (i + 1)).countP (atC x y) : Nat) : Int) = n + (((l.drop (i + 1)).countP (atC x y) + if atC x y (nq l i) = true then 1 else 0 : Nat) : Int) := fun h => by rw [if_pos h]; omega
    have e0 : atC x y (nq l i) = false → (n + ((l.drop (i + 1)).countP (atC x y) : Nat) : Int) = n + (((l.drop (i + 1)).countP (atC x y) + if atC x y (nq l i) = true then 1 else 0 : Nat) : Int) := fun h => by rw [if_neg (by rw [h]; simp)]; omega
    by_cases c1 : x = (nq l i).f0
    · refine ev_pos c1 ?_
      by_cases c2 : y = (nq l i).f1
      · rw [← e1 (by unfold atC; simp [c1, c2])]; exact ev_pos c2 ih1
      · refine ev_neg c2 ?_
        by_cases c3 : y = (nq l i).f1 + (nq l i).f2
        · rw [← e1 (by unfold atC; simp [c1, c3])]; exact ev_pos c3 ih1
        · rw [← e0 (by unfold atC; simp [c2, c3])]; exact ev_neg c3 ih0
    · refine ev_neg c1 ?_
      by_cases c4 : x = (nq l i).f0 + (nq l i).f2
      · refine ev_pos c4 ?_
        by_cases c2 : y = (nq l i).f1
        · rw [← e1 (by unfold atC; simp [c4, c2])]; exact ev_pos c2 ih1
        · refine ev_neg c2 ?_
          by_cases c3 : y = (nq l i).f1 + (nq l i).f2
          · rw [← e1 (by unfold atC; simp [c4, c3])]; exact ev_pos c3 ih1
          · rw [← e0 (by unfold atC; simp [c2, c3])]; exact ev_neg c3 ih0
      · rw [← e0 (by unfold atC; simp [c1, c4])]; exact ev_neg c4 ih0
theorem corners_ev (l : List Sq) (h : smallL l = true) (a b x y : Int) : Ev (fun k => spec_cuCorners.f k a b l x y) ((corn l x y : Nat) : Int) := by
  simp only [smallL, Bool.and_eq_true, decide_eq_true_eq, List.all_eq_true] at h
  have := corners_l l h.1 h.2 x y l.length 0 0 (by omega) (by omega) (by omega)
  rw [List.drop_zero, Int.zero_add] at this
  exact this
theorem bitB (b : Bool) : impl_bit.f b = some (if b = true then 1 else 0) := by cases b <;> rfl
theorem crosses_l1 (l : List Sq) (hl : l.length ≤ 1000) (hs : ∀ q ∈ l, smallQ q = true) (acc : List (List Int)) (i a b p q s : Int) {r : List (List Int)} : ∀ (d j : Nat) (n : Int), j + d = l.length → 0 ≤ n → n ≤ j →
    Ev (fun k => if (n + ((l.drop j).countP (atC p q) : Nat) : Int) = 4 then (if acc.length < 5864062014805 then (impl_Cut_crosses.l0 k (acc ++ [(([p, q] : List Int))]) l l.length (wrap64 (i + 1)) a b l) else (none)) else (impl_Cut_crosses.l0 k acc l l.length (wrap64 (i + 1)) a b l)) r →
    Ev (fun k => impl_Cut_crosses.l1 k acc n l l.length i l l.length j a b l p q s) r
  | 0, j, n, hd, h0, hn, hr => by
    rw [List.drop_eq_nil_of_le (by omega), List.countP_nil] at hr
    simp only [Int.natCast_zero, Int.add_zero] at hr
    exact Ev.step (fun _ => impl_Cut_crosses.l1.eq_2 ..) (ev_neg (by omega) hr)
  | d + 1, j, n, hd, h0, hn, hr => by
    have hj : j < l.length := by omega
    have hq := smallQ_iff.1 (hs _ (nq_mem l j hj))
    rw [drop_q l j hj, List.countP_cons] at hr
    have ih1 := crosses_l1 l hl hs acc i a b p q s (r := r) d (j + 1) (n + 1) (by omega) (by omega) (by omega)
    have ih0 := crosses_l1 l hl hs acc i a b p q s (r := r) d (j + 1) n (by omega) h0 (by omega)
    refine Ev.step (fun _ => impl_Cut_crosses.l1.eq_2 ..) (ev_pos (by omega) (ev_pos (by omega) (ev_pos (by omega) ?_)))
    rw [rdsq, w64 (e := (j : Int) + 1) (by omega) (by omega), w64 (e := (nq l j).f1 + (nq l j).f2) (by omega) (by omega), w64 (e := (nq l j).f0 + (nq l j).f2) (by omega) (by omega)]
    have g1 : atC p q (nq l j) = true → Ev (fun k => impl_Cut_crosses.l1 k acc (wrap64 (n + 1)) l l.length i l l.length ((j + 1 : Nat) : Int) a b l p q s) r := fun h => by
      rw [w64 (e := n + 1) (by omega) (by omega)]
      refine ih1 ?_
      rw [if_pos h] at hr
      rwa [show (n + 1 + ((l.drop (j + 1)).countP (atC p q) : Nat) : Int) = n + (((l.drop (j + 1)).countP (atC p q) + 1 : Nat) : Int) by omega]
    have g0 : atC p q (nq l j) = false → Ev (fun k => impl_Cut_crosses.l1 k acc (wrap64 (n + 0)) l l.length i l l.length ((j + 1 : Nat) : Int) a b l p q s) r := fun h => by
      rw [w64 (e := n + 0) (by omega) (by omega), Int.add_zero]
      refine ih0 ?_
      rw [if_neg (by rw [h]; simp)] at hr
      exact hr
    by_cases c1 : (nq l j).f0 = p
    · refine ev_pos c1 ?_
      by_cases c2 : (nq l j).f1 = q
      · exact ev_pos c2 (ev_call (bitB true) (g1 (by unfold atC; simp [← c1, ← c2])))
      · refine ev_neg c2 (ev_call (bitB _) ?_)
        by_cases c3 : (nq l j).f1 + (nq l j).f2 = q
        · rw [if_pos (by simpa using c3)]; exact g1 (by unfold atC; simp [← c1, ← c3])
        · rw [if_neg (by simpa using c3)]; exact g0 (by unfold atC; simp [Ne.symm c2, Ne.symm c3])
    · refine ev_neg c1 ?_
      by_cases c4 : (nq l j).f0 + (nq l j).f2 = p
      · refine ev_pos c4 ?_
        by_cases c2 : (nq l j).f1 = q
        · exact ev_pos c2 (ev_call (bitB true) (g1 (by unfold atC; simp [← c4, ← c2])))
        · refine ev_neg c2 (ev_call (bitB _) ?_)
          by_cases c3 : (nq l j).f1 + (nq l j).f2 = q
          · rw [if_pos (by simpa using c3)]; exact g1 (by unfold atC; simp [← c4, ← c3])
          · rw [if_neg (by simpa using c3)]; exact g0 (by unfold atC; simp [Ne.symm c2, Ne.symm c3])
      · exact ev_neg c4 (ev_call (bitB false) (g0 (by unfold atC; simp [Ne.symm c1, Ne.symm c4])))
def isXI (l : List Sq) (q : Sq) : Bool := !(decide (q.f0 = 0) || decide (q.f1 = 0)) && isX l q
def rowX (q : Sq) : List Int := [q.f0, q.f1]
theorem crosses_l0 (l : List Sq) (hl : l.length ≤ 1000) (hs : ∀ q ∈ l, smallQ q = true) (a b : Int) : ∀ (d i : Nat) (acc : List (List Int)), i + d = l.length → acc.length ≤ i →
    Ev (fun k => impl_Cut_crosses.l0 k acc l l.length i a b l) (acc ++ ((l.drop i).filter (isXI l)).map rowX)
  | 0, i, acc, hd, ha => by
    rw [List.drop_eq_nil_of_le (by omega)]
    exact Ev.step (fun _ => impl_Cut_crosses.l0.eq_2 ..) (ev_neg (by omega) (ev_some (by simp)))
  | d + 1, i, acc, hd, ha => by
    have hi : i < l.length := by omega
    have ih0 := crosses_l0 l hl hs a b d (i + 1) acc (by omega) (by omega)
    have ih1 := crosses_l0 l hl hs a b d (i + 1) (acc ++ [rowX (nq l i)]) (by omega) (by simp; omega)
    rw [List.append_assoc] at ih1
    have ew : wrap64 ((i : Int) + 1) = ((i + 1 : Nat) : Int) := by rw [w64 (by omega) (by omega)]; omega
    refine Ev.step (fun _ => impl_Cut_crosses.l0.eq_2 ..) (ev_pos (by omega) (ev_pos (by omega) (ev_pos (by omega) ?_)))
    rw [rdsq, drop_q l i hi, List.filter_cons]
    have sk : isXI l (nq l i) = false → Ev (fun k => impl_Cut_crosses.j1 k acc l l.length i true a b l (nq l i).f0 (nq l i).f1 (nq l i).f2) (acc ++ (if isXI l (nq l i) = true then nq l i :: (l.drop (i + 1)).filter (isXI l) else (l.drop (i + 1)).filter (isXI l)).map rowX) := fun h => by
      rw [if_neg (by rw [h]; simp)]
      refine Ev.step (fun _ => impl_Cut_crosses.j1.eq_2 ..) (ev_pos rfl ?_)
      rw [ew]
      exact ih0
    by_cases c1 : (nq l i).f0 = 0
    · exact ev_pos c1 (sk (by unfold isXI; simp [c1]))
    · refine ev_neg c1 ?_
      by_cases c2 : (nq l i).f1 = 0
      · rw [show ((nq l i).f1 == 0) = true by simpa using c2]
        exact sk (by unfold isXI; simp [c2])
      · rw [show ((nq l i).f1 == 0) = false by simpa using c2]
        refine Ev.step (fun _ => impl_Cut_crosses.j1.eq_2 ..) (ev_neg (by simp) (crosses_l1 l hl hs acc i a b (nq l i).f0 (nq l i).f1 (nq l i).f2 l.length 0 0 (by omega) (by omega) (by omega) ?_))
        rw [List.drop_zero, Int.zero_add, ew]
        by_cases c3 : corn l (nq l i).f0 (nq l i).f1 = 4
        · rw [if_pos (by unfold isXI isX; simp [c1, c2, c3]), List.map_cons]
          unfold corn at c3
          exact ev_pos (by omega) (ev_pos (by omega) ih1)
        · rw [if_neg (by unfold isXI isX; simp [c1, c2, c3])]
          unfold corn at c3
          exact ev_neg (by omega) ih0
theorem crosses_ev (l : List Sq) (h : smallL l = true) (a b : Int) : Ev (fun k => impl_Cut_crosses.f k a b l) ((l.filter (isXI l)).map rowX) := by
  simp only [smallL, Bool.and_eq_true, decide_eq_true_eq, List.all_eq_true] at h
  have := crosses_l0 l h.1 h.2 a b l.length 0 [] (by omega) (by simp)
  rw [List.drop_zero, List.nil_append] at this
  exact this
theorem one_at (p : Sq → Bool) (l : List Sq) (hd : l.Pairwise Apart) (h : ∀ a b : Sq, p a = true → p b = true → a ∈ l → b ∈ l → ¬ Apart a b) : l.countP p ≤ 1 := by
  induction l with
  | nil => simp
  | cons q l ih =>
    rw [List.pairwise_cons] at hd
    have := ih hd.2 (fun a b ha hb ma mb => h a b ha hb (List.mem_cons_of_mem _ ma) (List.mem_cons_of_mem _ mb))
    rw [List.countP_cons]
    by_cases c : p q = true
    · have z : l.countP p = 0 := by
        rw [List.countP_eq_zero]
        intro r hr hp
        exact h q r c hp (List.mem_cons_self ..) (List.mem_cons_of_mem _ hr) (hd.1 r hr)
      rw [z, if_pos c]; omega
    · rw [if_neg c]; omega
theorem countP_or (p q r : Sq → Bool) (h : ∀ a, r a = true → p a = true ∨ q a = true) : ∀ l : List Sq, l.countP r ≤ l.countP p + l.countP q
  | [] => by simp
  | a :: l => by
    have ih := countP_or p q r h l
    rw [List.countP_cons, List.countP_cons, List.countP_cons]
    by_cases c : r a = true
    · rw [if_pos c]
      rcases h a c with k | k
      · rw [if_pos k]; split <;> omega
      · rw [if_pos k]; split <;> omega
    · rw [if_neg c]; split <;> split <;> omega
theorem edge_no (l : List Sq) (hd : l.Pairwise Apart) (hs : ∀ q ∈ l, smallQ q = true) (s : Sq) (h0 : s.f0 = 0 ∨ s.f1 = 0) : isX l s = false := by
  unfold isX
  refine decide_eq_false (fun hc => ?_)
  rcases h0 with h0 | h0
  · have b1 : l.countP (fun t => decide (t.f0 = 0) && decide (s.f1 = t.f1)) ≤ 1 := one_at _ l hd (fun a b ha hb ma mb hab => by
      simp only [Bool.and_eq_true, decide_eq_true_eq] at ha hb
      have := smallQ_iff.1 (hs a ma); have := smallQ_iff.1 (hs b mb)
      unfold Apart at hab; omega)
    have b2 : l.countP (fun t => decide (t.f0 = 0) && decide (s.f1 = t.f1 + t.f2)) ≤ 1 := one_at _ l hd (fun a b ha hb ma mb hab => by
      simp only [Bool.and_eq_true, decide_eq_true_eq] at ha hb
      have := smallQ_iff.1 (hs a ma); have := smallQ_iff.1 (hs b mb)
      unfold Apart at hab; omega)
    have b3 : corn l s.f0 s.f1 = l.countP (fun t => decide (t.f0 = 0) && (decide (s.f1 = t.f1) || decide (s.f1 = t.f1 + t.f2))) := by
      unfold corn
      refine List.countP_congr (fun t ht => ?_)
      have := smallQ_iff.1 (hs t ht)
      unfold atC
      simp only [Bool.and_eq_true, Bool.or_eq_true, decide_eq_true_eq]
      omega
    have b4 := countP_or (fun t => decide (t.f0 = 0) && decide (s.f1 = t.f1)) (fun t => decide (t.f0 = 0) && decide (s.f1 = t.f1 + t.f2)) (fun t => decide (t.f0 = 0) && (decide (s.f1 = t.f1) || decide (s.f1 = t.f1 + t.f2))) (fun a h => by simp only [Bool.and_eq_true, Bool.or_eq_true, decide_eq_true_eq] at h ⊢; omega) l
    omega
  · have b1 : l.countP (fun t => decide (t.f1 = 0) && decide (s.f0 = t.f0)) ≤ 1 := one_at _ l hd (fun a b ha hb ma mb hab => by
      simp only [Bool.and_eq_true, decide_eq_true_eq] at ha hb
      have := smallQ_iff.1 (hs a ma); have := smallQ_iff.1 (hs b mb)
      unfold Apart at hab; omega)
    have b2 : l.countP (fun t => decide (t.f1 = 0) && decide (s.f0 = t.f0 + t.f2)) ≤ 1 := one_at _ l hd (fun a b ha hb ma mb hab => by
      simp only [Bool.and_eq_true, decide_eq_true_eq] at ha hb
      have := smallQ_iff.1 (hs a ma); have := smallQ_iff.1 (hs b mb)
      unfold Apart at hab; omega)
    have b3 : corn l s.f0 s.f1 = l.countP (fun t => decide (t.f1 = 0) && (decide (s.f0 = t.f0) || decide (s.f0 = t.f0 + t.f2))) := by
      unfold corn
      refine List.countP_congr (fun t ht => ?_)
      have := smallQ_iff.1 (hs t ht)
      unfold atC
      simp only [Bool.and_eq_true, Bool.or_eq_true, decide_eq_true_eq]
      omega
    have b4 := countP_or (fun t => decide (t.f1 = 0) && decide (s.f0 = t.f0)) (fun t => decide (t.f1 = 0) && decide (s.f0 = t.f0 + t.f2)) (fun t => decide (t.f1 = 0) && (decide (s.f0 = t.f0) || decide (s.f0 = t.f0 + t.f2))) (fun a h => by simp only [Bool.and_eq_true, Bool.or_eq_true, decide_eq_true_eq] at h ⊢; omega) l
    omega
theorem isXI_eq (l : List Sq) (hd : l.Pairwise Apart) (hs : ∀ q ∈ l, smallQ q = true) (q : Sq) : isXI l q = isX l q := by
  unfold isXI
  by_cases c0 : q.f0 = 0
  · rw [edge_no l hd hs q (.inl c0)]; simp
  · by_cases c1 : q.f1 = 0
    · rw [edge_no l hd hs q (.inr c1)]; simp
    · simp [c0, c1]
def noXI (l : List Sq) : Bool := ((l.filter (isXI l)).length : Int) == 0
def noXS (l : List Sq) : Bool := ((l.filter (isX l)).length : Int) == 0
theorem noX_eq (l : List Sq) (hd : l.Pairwise Apart) (hs : ∀ q ∈ l, smallQ q = true) : noXI l = noXS l := by
  unfold noXI noXS
  rw [List.filter_congr (fun q _ => isXI_eq l hd hs q)]
end Go.Proofs.Ytdfcljfajiihdaa.Pure

namespace Go.Proofs.Ytdfcljfajiihdaa.P
open Go.RowKit Go.Proofs.YtdfcljfajiihdaaW.PrintWords Go.Proofs.YtdfcljfajiihdaaW.PrintLast Go.Proofs.YtdfcljfajiihdaaW.PrintMore
attribute [local go_sem] max2_int min2_int max_two min_two max_three min_three max_four min_four
set_option linter.unusedVariables false
set_option linter.unusedSimpArgs false
open Go.Proofs.Ytdfcljfajiihdaa.T Go.Proofs.Ytdfcljfajiihdaa.Aid Go.Proofs.Ytdfcljfajiihdaa.Pure
theorem xc_at {w : World} {base g n cap : Nat} {ok : Nat → Prop} {L : List Ct} (h : Kd.S k37 37 w base ok (.slice (some ⟨g, 0, none⟩) n cap) L) (i : Int) (h0 : 0 ≤ i) (h1 : i < n) :
    ∃ A c, w.cell? ⟨g, i.toNat * 3, none⟩ = some (.int .i64 (rd_T37 L i).f0) ∧ w.cell? ⟨g, i.toNat * 3 + 1, none⟩ = some (.int .i64 (rd_T37 L i).f1) ∧ w.cell? ⟨g, i.toNat * 3 + 2, none⟩ = some (.slice A (rd_T37 L i).f2.length c) ∧ Kd.R k56 56 w base (fun _ => True) (.slice A (rd_T37 L i).f2.length c) (rd_T37 L i).f2 := by
  obtain ⟨oki, cs, hl, hM, hc, _, _, _⟩ := Kd.S_elem h (z37) i h0 h1
  obtain ⟨v2, rfl, hR⟩ := k37_openM hM
  obtain ⟨A, c, rfl⟩ := Kd.R_slice hR
  exact ⟨A, c, hc 0 _ rfl, hc 1 _ rfl, hc 2 _ rfl, Kd.R_mono hR (fun _ _ => trivial)⟩
def cntX {α : Type} (p : α → Bool) (L : List α) : Int := ((L.filter p).length : Int)
theorem cntX_step {α : Type} (p : α → Bool) (L : List α) (i : Nat) (x : α) (hx : L[i]? = some x) : cntX p (L.take (i + 1)) = cntX p (L.take i) + (if p x = true then 1 else 0) := by
  obtain ⟨hi, rfl⟩ := List.getElem?_eq_some_iff.1 hx
  unfold cntX
  rw [List.take_succ_eq_append_getElem hi, List.filter_append]
  by_cases c : p L[i] = true
  · rw [if_pos c]; simp [c]
  · rw [if_neg c]; simp [c]
theorem cntX_bd {α : Type} (p : α → Bool) (L : List α) : 0 ≤ cntX p L ∧ cntX p L ≤ L.length := by
  unfold cntX
  have := List.length_filter_le p L
  omega
def spec_CountWithoutCross.f (a0 a1 : Int) : Option (Int × Bool) := (spec_ctFew.f a0 a1).bind fun t => if t = true then ((spec_ctAll.f a0 a1).bind fun L => if L.all (fun c => smallL c.f2) = true ∧ L.length ≤ 4294967296 then some (cntX (fun c => noXS c.f2) L, true) else none) else some (0, false)
set_option maxHeartbeats 4000000 in
set_option maxRecDepth 100000 in
theorem spec_CountWithoutCross.calls (a0 a1 : Int) (r1 : Int) (r2 : Bool) (w : World) (h : spec_CountWithoutCross.f a0 a1 = some (r1, r2)) :
    Calls Try.prog 14 #[.int .i64 a0, .int .i64 a1] w fun e w' => e = .returned (.tuple #[.int .i64 r1, .bool r2]) ∧ Below w.heap.size w w' := by
  unfold spec_CountWithoutCross.f at h
  obtain ⟨t, ht, h⟩ := Option.bind_eq_some_iff.mp h
  have HT := Aside0.mk (fun V => spec_ctFew.calls a0 a1 t V ht)
  have hu38 := Try.underlying37
  have hu57 := Try.underlying56
  clear ht
  cases t with
  | false =>
    rw [if_neg (by decide)] at h
    obtain ⟨rfl, rfl⟩ : (0 : Int) = r1 ∧ false = r2 := by simpa using h
    clear h
    go_enter Try.func14, Try.ntmps14
    go_wp2_with (go_at_call 34; refine (HT.out _).mono ?_; rintro e w2 ⟨rfl, hd⟩; have HB2 := Aside0.mk hd.below; clear hd)
    go_ret2
    exact ⟨rfl, HB2.out⟩
  | true =>
    rw [if_pos rfl] at h
    obtain ⟨L, hL, h⟩ := Option.bind_eq_some_iff.mp h
    by_cases c : L.all (fun c => smallL c.f2) = true ∧ L.length ≤ 4294967296
    case neg => rw [if_neg c] at h; cases h
    rw [if_pos c] at h
    obtain ⟨h1, rfl⟩ : cntX (fun c => noXS c.f2) L = r1 ∧ true = r2 := by simpa using h
    have HA := Aside0.mk (fun V => spec_ctAll.calls a0 a1 L V hL)
    have HL := Aside0.mk c
    have H1 := Aside0.mk h1
    clear h hL h1 c
    go_enter Try.func14, Try.ntmps14
    go_wp2_with (first | (go_at_call 34; refine (HT.out _).mono ?_; rintro e w2 ⟨rfl, hd⟩; have HB2 := Aside0.mk hd.below; clear hd) | (go_at_call 35; refine (HA.out _).mono ?_; rintro e w1 ⟨vL, rfl, ho, hb⟩; obtain ⟨b0, ho⟩ : ∃ b0, Kd.S k37 37 w1 b0 (fun _ => True) vL L := ⟨_, ho⟩; obtain ⟨A0, c0, e0⟩ := Kd.S_slice ho; subst e0; have HO := Aside0.mk ho; have HB := Aside0.mk (below_step HB2.out hb); clear ho hb))
    go_loopg [6, 20] L.length (fun kq v6 v20 wc => ∃ (i : Nat) (xi m : Int), i ≤ L.length ∧ L.length - i ≤ kq ∧ (i : Int) = xi ∧ v20 = .int .i64 xi ∧ v6 = .int .i64 m ∧ Aside0 (m = cntX (fun c => noXS c.f2) (L.take i)) ∧ Aside0 (Kd.S k37 37 wc b0 (fun _ => True) (.slice A0 L.length c0) L) ∧ Aside0 (Below w.heap.size w wc))
    case atStart => exact ⟨0, 0, 0, by omega, by omega, rfl, rfl, rfl, ⟨rfl⟩, HO, HB⟩
    case round =>
      clear HO HB HB2
      obtain ⟨i, xi, m, hi, hk, hxi, rfl, rfl, HM, HO, HB⟩ := hrel
      by_cases hlt : i < L.length
      · obtain ⟨gg, cap, ev, _⟩ := Kd.S_form HO.out (by omega)
        obtain ⟨rfl, rfl⟩ : A0 = some ⟨gg, 0, none⟩ ∧ c0 = cap := by injection ev with e1 e2 e3; exact ⟨e1, e3⟩
        clear ev
        have b1 : decide (xi < (L.length : Int)) = true := decide_eq_true (by omega)
        obtain ⟨A1, c1, y0, y1, y2, hR1⟩ := xc_at HO.out xi (by omega) (by omega)
        have hq : L[i]? = some (rd_T37 L xi) := by
          unfold rd_T37
          rw [← hxi, Int.toNat_natCast, List.getD_eq_getElem?_getD, List.getElem?_eq_getElem hlt]; rfl
        have hst := cntX_step (fun c => noXS c.f2) L i _ hq
        have hmem := List.mem_of_getElem? hq
        generalize rd_T37 L xi = q at y0 y1 y2 hR1 hst hmem
        have hsm := List.all_eq_true.1 HL.out.1 q hmem
        have HSM := Aside0.mk hsm
        have hlen : q.f2.length ≤ 1000 := by unfold smallL at hsm; simp only [Bool.and_eq_true, decide_eq_true_eq] at hsm; exact hsm.1
        have HR1 := Aside0.mk hR1
        have hbd := cntX_bd (fun c : Ct => noXS c.f2) (L.take i)
        have htl : (L.take i).length ≤ i := List.length_take_le _ _
        have hm := HM.out
        have hl2 := HL.out.2
        have q1 := eq_true (show 0 ≤ xi by omega)
        have q2 := eq_true (show xi < (L.length : Int) by omega)
        have HST := Aside0.mk hst
        have EI : Aside0 (wrap64 (xi + 1) = ((i + 1 : Nat) : Int)) := ⟨by rw [w64 (by omega) (by omega)]; omega⟩
        have EM : Aside0 (wrap64 (m + 1) = m + 1) := ⟨by rw [w64 (by omega) (by omega)]⟩
        have HI : Aside0 (i < L.length ∧ L.length - i ≤ gk) := ⟨hlt, hk⟩
        have HLEN := Aside0.mk hlen
        have HX := Aside0.mk (heap_alloc_new wr (.cells #[.int .i64 q.f0, .int .i64 q.f1, .slice A1 q.f2.length c1] 37))
        have HW6 := Aside0.mk (below_alloc (Below.refl wr.heap.size wr) (.cells #[.int .i64 q.f0, .int .i64 q.f1, .slice A1 q.f2.length c1] 37))
        clear hi hk hxi hlt hR1 hst hmem hbd htl hm hl2 hq hsm hlen
        go_wp2_with fail
        clear y0 y1 y2 b1 q1 q2
        generalize wr.alloc (.cells #[.int .i64 q.f0, .int .i64 q.f1, .slice A1 q.f2.length c1] 37) = W6 at HX HW6 ⊢
        have HR6 := Aside0.mk (Kd.R_below HR1.out HW6.out)
        go_loopg [9, 27] q.f2.length (fun kj v9 v27 wc => ∃ (j : Nat) (xj n : Int), j ≤ q.f2.length ∧ q.f2.length - j ≤ kj ∧ (j : Int) = xj ∧ v27 = .int .i64 xj ∧ v9 = .int .i64 n ∧ Aside0 (n = cntX (isX q.f2) (q.f2.take j)) ∧ Aside0 (Below W6.heap.size W6 wc))
        case atStart => exact ⟨0, 0, 0, by omega, by omega, rfl, rfl, rfl, ⟨rfl⟩, ⟨Below.refl _ _⟩⟩
        case round =>
          obtain ⟨j, xj, n, hj, hkj, hxj, rfl, rfl, HN, HBJ⟩ := hrel
          by_cases hltj : j < q.f2.length
          · have b1 : decide (xj < (q.f2.length : Int)) = true := decide_eq_true (by omega)
            obtain ⟨ad, e1, x0, x1, x2⟩ := at_T56 (Kd.R_reads' (Kd.R_below HR6.out HBJ.out)).2.2 xj (by omega) (by omega)
            cases e1
            have hq : q.f2[j]? = some (rd_T56 q.f2 xj) := by
              unfold rd_T56
              rw [← hxj, Int.toNat_natCast, List.getD_eq_getElem?_getD, List.getElem?_eq_getElem hltj]; rfl
            have hst := cntX_step (isX q.f2) q.f2 j _ hq
            generalize rd_T56 q.f2 xj = s at x0 x1 x2 hst
            have hbd := cntX_bd (isX q.f2) (q.f2.take j)
            have htl : (q.f2.take j).length ≤ j := List.length_take_le _ _
            have hlen := HLEN.out
            have hn := HN.out
            have q1 := eq_true (show 0 ≤ xj by omega)
            have q2 := eq_true (show xj < (q.f2.length : Int) by omega)
            have EJ : Aside0 (wrap64 (xj + 1) = ((j + 1 : Nat) : Int)) := ⟨by rw [w64 (by omega) (by omega)]; omega⟩
            have EN : Aside0 (wrap64 (n + 1) = n + 1) := ⟨by rw [w64 (by omega) (by omega)]⟩
            have HJ := Aside0.mk (And.intro hltj hkj)
            obtain ⟨k, hck⟩ := ev_at (corners_ev q.f2 HSM.out q.f0 q.f1 s.f0 s.f1)
            obtain ⟨z, hz⟩ : ∃ z : Int, ((corn q.f2 s.f0 s.f1 : Nat) : Int) = z := ⟨_, rfl⟩
            rw [hz] at hck
            have HCC := Aside0.mk (fun (V : World) (hV : Below wr.heap.size wr V) => spec_cuCorners.calls k q.f0 q.f1 (some ad) c1 q.f2 s.f0 s.f1 z V (Kd.R_reads' (Kd.R_below (Kd.R_below HR6.out HBJ.out) hV)).2.2 (Kd.R_reads' HR6.out).2.1 hck)
            have hX := blk_below HX.out HBJ.out
            have z0 : wr.cell? ⟨_, 0, none⟩ = some (.int .i64 q.f0) := (blk_cell hX 0).trans rfl
            have z1 : wr.cell? ⟨_, 1, none⟩ = some (.int .i64 q.f1) := (blk_cell hX 1).trans rfl
            have z2 : wr.cell? ⟨_, 2, none⟩ = some (.slice (some ad) q.f2.length c1) := (blk_cell hX 2).trans rfl
            have k0 := ((below_alloc (Below.refl wr.heap.size wr) (.cells #[.int .i64 s.f0, .int .i64 s.f1, .int .i64 s.f2] 56)).cell (World.block_lt_of_cell? wr _ z0)).trans z0
            have k1 := ((below_alloc (Below.refl wr.heap.size wr) (.cells #[.int .i64 s.f0, .int .i64 s.f1, .int .i64 s.f2] 56)).cell (World.block_lt_of_cell? wr _ z1)).trans z1
            have k2 := ((below_alloc (Below.refl wr.heap.size wr) (.cells #[.int .i64 s.f0, .int .i64 s.f1, .int .i64 s.f2] 56)).cell (World.block_lt_of_cell? wr _ z2)).trans z2
            by_cases cz : z = 4
            · have bz : (z == 4) = true := by simpa using cz
              have HN2 : Aside0 (n + 1 = cntX (isX q.f2) (q.f2.take (j + 1))) := ⟨by rw [hst, if_pos (by unfold isX; rw [decide_eq_true_eq]; omega), hn]⟩
              clear hj hkj hxj hltj hst hbd htl hlen hn hq hck hX hz cz
              go_wp2_with (go_at_call 36; refine (HCC.out _ (below_alloc (Below.refl _ _) _)).mono ?_; rintro e w3 ⟨rfl, hb⟩; have HB3 := Aside0.mk (below_step (below_alloc (Below.refl wr.heap.size wr) _) hb); clear hb)
              go_roundg (q.f2.length - (j + 1))
              case measure => have := HJ.out; omega
              case rel => exact ⟨j + 1, _, n + 1, by have := HJ.out; omega, Nat.le_refl _, rfl, by rw [EJ.out], by rw [EN.out], HN2, ⟨HBJ.out.trans (HB3.out.mono HBJ.out.size)⟩⟩
            · have bz : (z == 4) = false := by simpa using cz
              have HN2 : Aside0 (n = cntX (isX q.f2) (q.f2.take (j + 1))) := ⟨by rw [hst, if_neg (by unfold isX; rw [decide_eq_true_eq]; omega), hn]; omega⟩
              clear hj hkj hxj hltj hst hbd htl hlen hn hq hck hX hz cz
              go_wp2_with (go_at_call 36; refine (HCC.out _ (below_alloc (Below.refl _ _) _)).mono ?_; rintro e w3 ⟨rfl, hb⟩; have HB3 := Aside0.mk (below_step (below_alloc (Below.refl wr.heap.size wr) _) hb); clear hb)
              go_roundg (q.f2.length - (j + 1))
              case measure => have := HJ.out; omega
              case rel => exact ⟨j + 1, _, n, by have := HJ.out; omega, Nat.le_refl _, rfl, by rw [EJ.out], rfl, HN2, ⟨HBJ.out.trans (HB3.out.mono HBJ.out.size)⟩⟩
          · have b1 : decide (xj < (q.f2.length : Int)) = false := decide_eq_false (by omega)
            obtain rfl : j = q.f2.length := by omega
            have hn := HN.out
            rw [List.take_length] at hn
            have hp : (n == 0) = noXS q.f2 := by rw [hn]; rfl
            have HBE := Aside0.mk (HB.out.trans ((HW6.out.trans (HBJ.out.mono HW6.out.size)).mono HB.out.size))
            have HOE := Aside0.mk (Kd.S_below (Kd.S_below HO.out HW6.out) HBJ.out)
            have hst := HST.out
            by_cases cz : noXS q.f2 = true
            · rw [cz] at hp
              rw [if_pos cz] at hst
              have HMN : Aside0 (m + 1 = cntX (fun c => noXS c.f2) (L.take (i + 1))) := ⟨by rw [hst, HM.out]⟩
              clear hj hkj hxj hltj hst hn cz
              go_wp2_with fail
              go_roundg (L.length - (i + 1))
              case measure => have := HI.out; omega
              case rel => exact ⟨i + 1, _, m + 1, by have := HI.out; omega, Nat.le_refl _, rfl, by rw [EI.out], by rw [EM.out], HMN, HOE, HBE⟩
            · rw [Bool.eq_false_iff.2 cz] at hp
              rw [if_neg cz] at hst
              have HMN : Aside0 (m = cntX (fun c => noXS c.f2) (L.take (i + 1))) := ⟨by rw [hst, HM.out]; omega⟩
              clear hj hkj hxj hltj hst hn cz
              go_wp2_with fail
              go_roundg (L.length - (i + 1))
              case measure => have := HI.out; omega
              case rel => exact ⟨i + 1, _, m, by have := HI.out; omega, Nat.le_refl _, rfl, by rw [EI.out], rfl, HMN, HOE, HBE⟩
      · have b1 : decide (xi < (L.length : Int)) = false := decide_eq_false (by omega)
        obtain rfl : i = L.length := by omega
        have hm := HM.out
        rw [List.take_length, H1.out] at hm
        subst hm
        go_wp2_with fail
        go_ret2
        exact ⟨rfl, HB.out⟩
end Go.Proofs.Ytdfcljfajiihdaa.P

namespace Go.Proofs.Ytdfcljfajiihdaa.P
open Go.RowKit Go.Proofs.YtdfcljfajiihdaaW.PrintWords Go.Proofs.YtdfcljfajiihdaaW.PrintLast Go.Proofs.YtdfcljfajiihdaaW.PrintMore
attribute [local go_sem] max2_int min2_int max_two min_two max_three min_three max_four min_four
set_option linter.unusedVariables false
set_option linter.unusedSimpArgs false
def impl_within.f (a0 : Int) (a1 : Int) (a2 : Int) : Option (Bool) := if a1 ≤ a0 then (some (decide (a0 ≤ a2))) else (some false)
set_option maxHeartbeats 8000000 in
set_option maxRecDepth 100000 in
theorem impl_within.calls (a0 : Int) (a1 : Int) (a2 : Int) (r : Bool) (w : World) (h : impl_within.f a0 a1 a2 = some r) :
    Calls Try.prog 32 #[.int .i64 a0, .int .i64 a1, .int .i64 a2] w fun e w' => e = .returned (.bool r) ∧ Drawn0 w w' := by
  have H : (if a1 ≤ a0 then (some (decide (a0 ≤ a2))) else (some false)) = some r := h
  clear h
  by_cases c4 : a1 ≤ a0
  · rw [if_pos c4] at H
    have c4b0 : decide (a1 ≤ a0) = true := decide_eq_true c4
    clear c4
    obtain rfl := Option.some.inj H
    go_enter Try.func32, Try.ntmps32
    go_wp2
    go_ret
    exact ⟨by first | rfl | (simp; done) | (simp [*]; done), by repeat (first | exact Drawn0.refl _ | apply Drawn0.step)⟩
  · rw [if_neg c4] at H
    have c4b0 : decide (a1 ≤ a0) = false := decide_eq_false c4
    clear c4
    obtain rfl := Option.some.inj H
    go_enter Try.func32, Try.ntmps32
    go_wp2
    go_ret
    exact ⟨by first | rfl | (simp; done) | (simp [*]; done), by repeat (first | exact Drawn0.refl _ | apply Drawn0.step)⟩
end Go.Proofs.Ytdfcljfajiihdaa.P

namespace Go.Proofs.Ytdfcljfajiihdaa.P
open Go.RowKit Go.Proofs.YtdfcljfajiihdaaW.PrintWords Go.Proofs.YtdfcljfajiihdaaW.PrintLast Go.Proofs.YtdfcljfajiihdaaW.PrintMore
attribute [local go_sem] max2_int min2_int max_two min_two max_three min_three max_four min_four
set_option linter.unusedVariables false
set_option linter.unusedSimpArgs false
def impl_isCounted.f (a0 : Int) (a1 : Int) : Option (Bool) := (impl_within.f a0 1 6).bind fun t101 => (if t101 = true then ((impl_within.f a1 1 6).bind fun t102 => (some t102)) else (some false))
set_option maxHeartbeats 8000000 in
set_option maxRecDepth 100000 in
theorem impl_isCounted.calls (a0 : Int) (a1 : Int) (r : Bool) (w : World) (h : impl_isCounted.f a0 a1 = some r) :
    Calls Try.prog 85 #[.int .i64 a0, .int .i64 a1] w fun e w' => e = .returned (.bool r) ∧ Drawn0 w w' := by
  have H : ((impl_within.f a0 1 6).bind fun t101 => (if t101 = true then ((impl_within.f a1 1 6).bind fun t102 => (some t102)) else (some false))) = some r := h
  clear h
  replace H := Option.bind_eq_some_iff.mp H
  obtain ⟨t101, A30, H⟩ := H
  replace H : (if t101 = true then ((impl_within.f a1 1 6).bind fun t102 => (some t102)) else (some false)) = some r := H
  have A3 := Aside0.mk A30
  clear A30
  by_cases c4 : t101 = true
  · subst c4
    have H1 : ((impl_within.f a1 1 6).bind fun t102 => (some t102)) = some r := by rw [if_pos rfl] at H; exact H
    clear H
    have H := H1
    clear H1
    replace H := Option.bind_eq_some_iff.mp H
    obtain ⟨t102, A50, H⟩ := H
    replace H : (some t102) = some r := H
    have A5 := Aside0.mk A50
    clear A50
    obtain rfl := Option.some.inj H
    go_enter Try.func85, Try.ntmps85
    go_wp2_with (first | ((with_reducible refine gate_callee (f := 32) rfl ?_); refine goesL_ (some 6) rfl rfl Try.func32 (by kernel_rfl) rfl #[.int .i64 a0, .int .i64 1, .int .i64 6] rfl (by (try simp only [List.map_toArray, List.map_cons, List.map_nil]); first | done | rfl | (simp only [List.length_drop, List.length_take]; rfl)) ?_; (with_reducible refine (impl_within.calls a0 1 6 true _ A3.out).mono ?_); rintro e w' ⟨rfl, ⟨nd, rfl⟩⟩; refine ⟨_, rfl, ?_⟩) | (go_at_call 32; (with_reducible refine (impl_within.calls a1 1 6 t102 _ A5.out).mono ?_); rintro e w' ⟨rfl, ⟨nd, rfl⟩⟩))
    go_ret
    exact ⟨by first | rfl | (simp; done) | (simp [*]; done), by repeat (first | exact Drawn0.refl _ | apply Drawn0.step)⟩
  · replace c4 := Bool.eq_false_iff.mpr c4
    subst c4
    have H1 : (some false) = some r := by rw [if_neg (show ¬ (false = true) by decide)] at H; exact H
    clear H
    have H := H1
    clear H1
    obtain rfl := Option.some.inj H
    go_enter Try.func85, Try.ntmps85
    go_wp2_with (first | ((with_reducible refine gate_callee (f := 32) rfl ?_); refine goesL_ (some 6) rfl rfl Try.func32 (by kernel_rfl) rfl #[.int .i64 a0, .int .i64 1, .int .i64 6] rfl (by (try simp only [List.map_toArray, List.map_cons, List.map_nil]); first | done | rfl | (simp only [List.length_drop, List.length_take]; rfl)) ?_; (with_reducible refine (impl_within.calls a0 1 6 false _ A3.out).mono ?_); rintro e w' ⟨rfl, ⟨nd, rfl⟩⟩; refine ⟨_, rfl, ?_⟩))
    go_ret
    exact ⟨by first | rfl | (simp; done) | (simp [*]; done), by repeat (first | exact Drawn0.refl _ | apply Drawn0.step)⟩
end Go.Proofs.Ytdfcljfajiihdaa.P

namespace Go.Proofs.Ytdfcljfajiihdaa.P
open Go.RowKit Go.Proofs.YtdfcljfajiihdaaW.PrintWords Go.Proofs.YtdfcljfajiihdaaW.PrintLast Go.Proofs.YtdfcljfajiihdaaW.PrintMore
attribute [local go_sem] max2_int min2_int max_two min_two max_three min_three max_four min_four
set_option linter.unusedVariables false
set_option linter.unusedSimpArgs false
def impl_isListed.f (a0 : Int) (a1 : Int) : Option (Bool) := (impl_isCounted.f a0 a1).bind fun t101 => (if t101 = true then (some (decide ((wrap64 (a0 * a1)) ≤ 16))) else (some false))
set_option maxHeartbeats 8000000 in
set_option maxRecDepth 100000 in
theorem impl_isListed.calls (a0 : Int) (a1 : Int) (r : Bool) (w : World) (h : impl_isListed.f a0 a1 = some r) :
    Calls Try.prog 60 #[.int .i64 a0, .int .i64 a1] w fun e w' => e = .returned (.bool r) ∧ Drawn0 w w' := by
  have H : ((impl_isCounted.f a0 a1).bind fun t101 => (if t101 = true then (some (decide ((wrap64 (a0 * a1)) ≤ 16))) else (some false))) = some r := h
  clear h
  replace H := Option.bind_eq_some_iff.mp H
  obtain ⟨t101, A30, H⟩ := H
  replace H : (if t101 = true then (some (decide ((wrap64 (a0 * a1)) ≤ 16))) else (some false)) = some r := H
  have A3 := Aside0.mk A30
  clear A30
  by_cases c4 : t101 = true
  · subst c4
    have H1 : (some (decide ((wrap64 (a0 * a1)) ≤ 16))) = some r := by rw [if_pos rfl] at H; exact H
    clear H
    have H := H1
    clear H1
    obtain rfl := Option.some.inj H
    go_enter Try.func60, Try.ntmps60
    go_wp2_with (first | ((with_reducible refine gate_callee (f := 85) rfl ?_); refine goesL_ (some 7) rfl rfl Try.func85 (by kernel_rfl) rfl #[.int .i64 a0, .int .i64 a1] rfl (by (try simp only [List.map_toArray, List.map_cons, List.map_nil]); first | done | rfl | (simp only [List.length_drop, List.length_take]; rfl)) ?_; (with_reducible refine (impl_isCounted.calls a0 a1 true _ A3.out).mono ?_); rintro e w' ⟨rfl, ⟨nd, rfl⟩⟩; refine ⟨_, rfl, ?_⟩))
    go_ret
    exact ⟨by first | rfl | (simp; done) | (simp [*]; done), by repeat (first | exact Drawn0.refl _ | apply Drawn0.step)⟩
  · replace c4 := Bool.eq_false_iff.mpr c4
    subst c4
    have H1 : (some false) = some r := by rw [if_neg (show ¬ (false = true) by decide)] at H; exact H
    clear H
    have H := H1
    clear H1
    obtain rfl := Option.some.inj H
    go_enter Try.func60, Try.ntmps60
    go_wp2_with (first | ((with_reducible refine gate_callee (f := 85) rfl ?_); refine goesL_ (some 7) rfl rfl Try.func85 (by kernel_rfl) rfl #[.int .i64 a0, .int .i64 a1] rfl (by (try simp only [List.map_toArray, List.map_cons, List.map_nil]); first | done | rfl | (simp only [List.length_drop, List.length_take]; rfl)) ?_; (with_reducible refine (impl_isCounted.calls a0 a1 false _ A3.out).mono ?_); rintro e w' ⟨rfl, ⟨nd, rfl⟩⟩; refine ⟨_, rfl, ?_⟩))
    go_ret
    exact ⟨by first | rfl | (simp; done) | (simp [*]; done), by repeat (first | exact Drawn0.refl _ | apply Drawn0.step)⟩
end Go.Proofs.Ytdfcljfajiihdaa.P

namespace Go.Proofs.Ytdfcljfajiihdaa.P
open Go.RowKit Go.Proofs.YtdfcljfajiihdaaW.PrintWords Go.Proofs.YtdfcljfajiihdaaW.PrintLast Go.Proofs.YtdfcljfajiihdaaW.PrintMore
attribute [local go_sem] max2_int min2_int max_two min_two max_three min_three max_four min_four
set_option linter.unusedVariables false
set_option linter.unusedSimpArgs false
open Go.Proofs.Ytdfcljfajiihdaa.T
def MinTo (f : List Int) (k : Nat) (m : Int) : Prop := (∃ c, c < k ∧ ht f c = m) ∧ ∀ c, c < k → m ≤ ht f c
theorem MinTo.low {f : List Int} {m : Int} (hne : 0 < f.length) (h : MinTo f f.length m) : m = ht f (low f) := by
  have L := low_spec f (fun e => by simp [e] at hne)
  obtain ⟨⟨c, hc, e⟩, h2⟩ := h
  have h3 := L.le c hc
  have h4 := h2 _ L.lt
  omega
theorem MinTo.next {f : List Int} {k : Nat} {m : Int} (h : MinTo f k m) : MinTo f (k + 1) (if ht f k < m then ht f k else m) := by
  obtain ⟨⟨c, hc, e⟩, h2⟩ := h
  split
  · rename_i hl
    exact ⟨⟨k, by omega, rfl⟩, fun d hd => by
      by_cases e1 : d = k
      · subst e1; omega
      · have := h2 d (by omega); omega⟩
  · rename_i hl
    exact ⟨⟨c, by omega, e⟩, fun d hd => by
      by_cases e1 : d = k
      · subst e1; omega
      · exact h2 d (by omega)⟩
set_option maxHeartbeats 1000000 in
theorem slices_Min_int (f : List Int) (G : Nat) (w : World) (hcol : ∀ i, i < f.length → w.cell? ⟨G, i, none⟩ = some (.int .i64 (ht f i))) (hne : 0 < f.length) (hn : f.length ≤ 1000) :
    Calls Try.prog 99 #[.slice (some ⟨G, 0, none⟩) f.length f.length] w fun e w' => e = .returned (.int .i64 (ht f (low f))) ∧ w = w' := by
  have HC := Aside0.mk hcol
  have h0 : w.cell? ⟨G, 0, none⟩ = some (.int .i64 (ht f 0)) := hcol 0 hne
  have HM : Aside0 (MinTo f 1 (ht f 0)) := ⟨⟨⟨0, by omega, rfl⟩, fun c hc => by rw [show c = 0 by omega]; omega⟩⟩
  clear hcol
  generalize ht f 0 = m0 at h0 HM
  have hz : decide (f.length < 1) = false := decide_eq_false (by omega)
  have hq := eq_true hne
  go_enter Try.func99, Try.ntmps99
  go_wp2
  go_loopg [3, 4] f.length (fun kq v3 v4 wc => ∃ (k : Nat) (m : Int), k ≤ f.length ∧ f.length - k ≤ kq ∧ v3 = .int .i64 m ∧ v4 = .int .i64 k ∧ Aside0 (MinTo f k m) ∧ wc = w)
  case atStart => exact ⟨1, m0, by omega, by omega, rfl, rfl, HM, rfl⟩
  case round =>
    clear HM
    obtain ⟨k, m, hk, hkq, rfl, rfl, HM, rfl⟩ := hrel
    by_cases hlt : k < f.length
    · have hlz : decide (k < f.length) = true := decide_eq_true hlt
      have hc := HC.out k hlt
      have HN := Aside0.mk HM.out.next
      generalize ht f k = y at hc HN
      by_cases c : y < m
      · rw [if_pos c] at HN
        go_wp2
        go_roundg (f.length - (k + 1))
        case measure => omega
        case rel => exact ⟨k + 1, y, by omega, by omega, by first | trivial | rfl, by go_num, HN, by first | trivial | rfl⟩
      · rw [if_neg c] at HN
        go_wp2
        go_roundg (f.length - (k + 1))
        case measure => omega
        case rel => exact ⟨k + 1, m, by omega, by omega, by first | trivial | rfl, by go_num, HN, by first | trivial | rfl⟩
    · have hlz : decide (k < f.length) = false := decide_eq_false hlt
      have hm := MinTo.low hne (by rw [show f.length = k by omega]; exact HM.out)
      have HMM := Aside0.mk hm
      clear hm
      go_wp2
      go_ret
      exact ⟨by rw [← HMM.out]; rfl, rfl⟩
end Go.Proofs.Ytdfcljfajiihdaa.P

namespace Go.Proofs.Ytdfcljfajiihdaa.P
open Go.RowKit Go.Proofs.YtdfcljfajiihdaaW.PrintWords Go.Proofs.YtdfcljfajiihdaaW.PrintLast Go.Proofs.YtdfcljfajiihdaaW.PrintMore
attribute [local go_sem] max2_int min2_int max_two min_two max_three min_three max_four min_four
set_option linter.unusedVariables false
set_option linter.unusedSimpArgs false
theorem bit_any (b : Bool) (w : World) : Calls Try.prog 73 #[.bool b] w fun e w' => e = .returned (.int .i64 (if b = true then 1 else 0)) ∧ w' = w := by
  cases b
  · go_enter Try.func73, Try.ntmps73
    go_wp2
    go_ret
    exact ⟨rfl, rfl⟩
  · go_enter Try.func73, Try.ntmps73
    go_wp2
    go_ret
    exact ⟨rfl, rfl⟩
open Go.Proofs.Ytdfcljfajiihdaa.T
structure Fil (w : World) (F G : Nat) (H most : Int) (f : List Int) (vS each : Value) : Prop where
  own : w.heap[F]? = some (.cells #[.int .i64 f.length, .int .i64 H, .slice (some ⟨G, 0, none⟩) f.length f.length, vS, .int .i64 most, each] 101 (0, 0))
  cols : w.heap[G]? = some (.cells (f.map (Value.int .i64)).toArray 3 (0, 0))
theorem Fil.col {w : World} {F G : Nat} {H most : Int} {f : List Int} {vS each : Value} (h : Fil w F G H most f vS each) (i : Nat) (hi : i < f.length) : w.cell? ⟨G, i, none⟩ = some (.int .i64 (ht f i)) := by
  rw [blk_cell h.cols i]
  simp [ht, hi]
theorem Fil.below {w w' : World} {F G : Nat} {H most : Int} {f : List Int} {vS each : Value} (h : Fil w F G H most f vS each) (hb : Below w.heap.size w w') : Fil w' F G H most f vS each :=
  ⟨blk_below h.own hb, blk_below h.cols hb⟩
theorem deepAt_bd {h : Int} {f : List Int} {x : Nat} (h0 : 0 ≤ h) (hx : x < f.length) (hf : ∀ c, c < f.length → 0 ≤ ht f c ∧ ht f c ≤ h) : 0 ≤ deepAt h f x ∧ deepAt h f x ≤ h := by
  have := hf x hx
  unfold deepAt
  simp only
  split <;> split <;> omega
theorem extra_bd {h : Int} {f : List Int} {x : Nat} (hx : x < f.length) (hf : ∀ c, c < f.length → 0 ≤ ht f c ∧ ht f c ≤ h) (hh : h ≤ 1000) : 0 ≤ extra h f x ∧ extra h f x ≤ 1000 := by
  have h0 := hf x hx
  have hd := deepAt_bd (by omega) hx hf
  have hr := runAt_pos f x hx
  unfold extra
  have : (deepAt h f x + (runAt f x : Int) - 1) / (runAt f x : Int) ≤ 1000 := Int.ediv_le_of_le_mul (by omega) (by
    have : (1000 : Int) * 1 ≤ 1000 * (runAt f x : Int) := by omega
    have h2 : ((runAt f x : Int) - 1) * 999 ≥ 0 := Int.mul_nonneg (by omega) (by omega)
    omega)
  omega
theorem extra_form {H : Int} {f : List Int} {x r : Nat} {dp : Int} (hr : runAt f x = r) (hd : deepAt H f x = dp) : extra H f x = max 1 ((dp + (r : Int) - 1) / (r : Int)) - 1 := by unfold extra; rw [hr, hd]
theorem pop_len (y : Int) : ∀ st : List Int, (pop y st).length ≤ st.length
  | [] => Nat.le_refl _
  | z :: st => by
    simp only [pop]
    split
    · exact Nat.le_trans (pop_len y st) (by simp)
    · exact Nat.le_refl _
def pushB (y : Int) : List Int → Bool
  | [] => true
  | z :: _ => decide (y < z)
set_option maxHeartbeats 4000000 in
set_option maxRecDepth 100000 in
theorem filler_least (w : World) (F G : Nat) (H most : Int) (f : List Int) (vS each : Value) (hF : Fil w F G H most f vS each) (hn : f.length ≤ 1000) (hH : H ≤ 1000) (hf : ∀ c, c < f.length → 0 ≤ ht f c ∧ ht f c ≤ H) :
    Calls Try.prog 100 #[.pointer (some ⟨F, 0, none⟩)] w fun e w' => e = .returned (.int .i64 (least H f)) ∧ Below w.heap.size w w' := by
  have HF := Aside0.mk hF
  have Hf := Aside0.mk hf
  have HL : Aside0 (leastL H f (f.length + 1) 0 0 [] = least H f) := ⟨rfl⟩
  clear hF hf
  go_enter Try.func100, Try.ntmps100
  go_wp2
  go_loopg [3, 4, 5] f.length (fun kq v3 v4 v5 wc => ∃ (x : Nat) (many : Int) (st : List Int), x ≤ f.length ∧ f.length - x ≤ kq ∧ v3 = .int .i64 many ∧ v5 = .int .i64 x ∧ 0 ≤ many ∧ many ≤ 2001 * x ∧ Aside0 (∃ m, f.length - x < m ∧ leastL H f m x many st = least H f) ∧ Aside0 (st.length ≤ x) ∧ Aside0 (Kd.R (Kd.int .i64) 3 wc w.heap.size (fun _ => True) v4 st.reverse) ∧ Aside0 (Below w.heap.size w wc))
  case atStart => exact ⟨0, 0, [], by omega, by omega, rfl, rfl, by omega, by omega, ⟨⟨f.length + 1, by omega, HL.out⟩⟩, ⟨by simp⟩, ⟨⟨fun _ _ => trivial, [], World.ownsRow_lit (base := w.heap.size) (e := 3) (size := 1) w #[] 0 (Nat.le_refl _) (by simp [maxLen]) (by simp), Reps.none _ _⟩⟩, ⟨(Below.refl _ _).alloc (Nat.le_refl _) _⟩⟩
  case round =>
    clear HL
    obtain ⟨x, many, st, hx, hkq, rfl, rfl, hm0, hm1, HM, HST, HR, HB⟩ := hrel
    have HFr := Aside0.mk (HF.out.below HB.out)
    have c0 := blk_cell HFr.out.own 0
    have c1 := blk_cell HFr.out.own 1
    have c2 := blk_cell HFr.out.own 2
    simp only [List.getElem?_toArray, List.getElem?_cons_zero, List.getElem?_cons_succ] at c0 c1 c2
    by_cases hlt : x < f.length
    · have hlz : decide (x < f.length) = true := decide_eq_true hlt
      have hcx := HFr.out.col x hlt
      have hrp := runAt_pos f x hlt
      have hrl := runAt_le f x (by omega)
      have hrun : ∃ r, runAt f x = r := ⟨_, rfl⟩
      obtain ⟨r, hr⟩ := hrun
      have HRN := Aside0.mk hr
      rw [hr] at hrp hrl
      clear hr
      obtain ⟨y, hy⟩ : ∃ y, ht f x = y := ⟨_, rfl⟩
      have HY := Aside0.mk hy
      rw [hy] at hcx
      have hyb := Hf.out x hlt
      rw [hy] at hyb
      clear hy
      obtain ⟨wo, rfl⟩ : ∃ wo : World, wo = wr := ⟨_, rfl⟩
      go_upto_block 2 with (fail)
      go_cut [6] (fun v6 wc => v6 = .int .i64 ((x + r : Nat) : Int) ∧ ∃ nd, wc = wo.drewN nd)
      case first => as_aux_lemma =>
        go_wp2_with fail
        go_loopg [6] f.length (fun kq v6 wc => ∃ (e : Nat), x ≤ e ∧ e ≤ x + r ∧ f.length - e ≤ kq ∧ v6 = .int .i64 e ∧ ∃ nd, wc = wo.drewN nd)
        case atStart => exact ⟨x, by omega, by omega, by omega, rfl, 0, rfl⟩
        case round =>
          obtain ⟨e, he0, he1, hek, rfl, nd, rfl⟩ := hrel
          by_cases hee : e < f.length
          · have hez : decide (e < f.length) = true := decide_eq_true hee
            have hce : wo.cell? ⟨G, e, none⟩ = some (.int .i64 (ht f e)) := HFr.out.col e hee
            by_cases he2 : e < x + r
            · have h1 : ht f e = y := by
                have := runAt_eq f x (e - x) (by rw [HRN.out]; omega)
                rw [show x + (e - x) = e by omega, HY.out] at this
                exact this
              rw [h1] at hce
              clear h1
              go_wp2_with fail
              go_quiet (fail)
              go_wp2
              go_roundg (f.length - (e + 1))
              case measure => omega
              case rel => exact ⟨e + 1, by omega, by omega, by omega, by go_num, _, by first | rfl | exact World.drewN_drewN _ _ _⟩
            · have h1 : (ht f e == y) = false := by
                have := runAt_end f x (by rw [HRN.out]; omega)
                rw [HRN.out, show x + r = e by omega, HY.out] at this
                simpa using this
              generalize ht f e = ye at hce h1
              go_wp2_with fail
              go_quiet (fail)
              go_wp2
              go_meet
              case rel => exact ⟨by rw [show e = x + r by omega], _, World.drewN_drewN _ _ _⟩
          · have hez : decide (e < f.length) = false := decide_eq_false hee
            go_wp2_with fail
            go_quiet (fail)
            go_wp2
            go_meet
            case rel => exact ⟨by rw [show e = x + r by omega], _, World.drewN_drewN _ _ _⟩
      case rest =>
        obtain ⟨rfl, nd, rfl⟩ := hcut
        go_wp2_with fail
        go_quiet (fail)
        go_upto_if 54 with (fail)
        go_cut [7] (fun v7 wc => v7 = .int .i64 (if 0 < x then min (H - y) (max 0 (ht f (x - 1) - y)) else H - y) ∧ ∃ nd, wc = wo.drewN nd)
        case first => as_aux_lemma =>
          by_cases c1 : 0 < x
          · have c1z : decide (0 < x) = true := decide_eq_true c1
            have hcp : wo.cell? ⟨G, x - 1, none⟩ = some (.int .i64 (ht f (x - 1))) := HFr.out.col (x - 1) (by omega)
            have hpb := Hf.out (x - 1) (by omega)
            have HX := Aside0.mk c1
            obtain ⟨yp, hyp⟩ : ∃ yp, ht f (x - 1) = yp := ⟨_, rfl⟩
            have HYP := Aside0.mk hyp
            rw [hyp] at hcp hpb
            clear hyp
            go_wp2_with fail
            go_quiet (fail)
            go_wp2_with fail
            all_goals
              go_meet
              case rel => exact ⟨congrArg (Value.int .i64) (by rw [if_pos HX.out, HYP.out]; omega), _, by first | rfl | exact World.drewN_drewN _ _ _⟩
          · have c1z : decide (0 < x) = false := decide_eq_false c1
            have HX := Aside0.mk c1
            go_wp2_with fail
            go_meet
            case rel => exact ⟨congrArg (Value.int .i64) (by rw [if_neg HX.out]), _, by first | rfl | exact World.drewN_drewN _ _ _⟩
        case rest =>
          obtain ⟨rfl, nd, rfl⟩ := hcut
          obtain ⟨d1, hd1⟩ : ∃ d1, (if 0 < x then min (H - y) (max 0 (ht f (x - 1) - y)) else H - y) = d1 := ⟨_, rfl⟩
          have HD1 := Aside0.mk hd1
          have hd1b : 0 ≤ d1 ∧ d1 ≤ H := by rw [← hd1]; split <;> omega
          rw [hd1]
          clear hd1
          go_upto_if 79 with (fail)
          go_cut [7] (fun v7 wc => v7 = .int .i64 (deepAt H f x) ∧ ∃ nd, wc = wo.drewN nd)
          case first => as_aux_lemma =>
            by_cases c1 : x + r < f.length
            · have c1z : decide (x + r < f.length) = true := decide_eq_true c1
              have c1y : (x : Int) + (r : Int) < (f.length : Int) := by omega
              have hcp : wo.cell? ⟨G, x + r, none⟩ = some (.int .i64 (ht f (x + r))) := HFr.out.col (x + r) c1
              have hpb := Hf.out (x + r) c1
              have HX := Aside0.mk c1
              obtain ⟨yp, hyp⟩ : ∃ yp, ht f (x + r) = yp := ⟨_, rfl⟩
              have HYP := Aside0.mk hyp
              rw [hyp] at hcp hpb
              clear hyp
              go_wp2_with fail
              go_quiet (fail)
              go_wp2_with fail
              all_goals
                go_meet
                case rel => exact ⟨congrArg (Value.int .i64) (by unfold deepAt; simp only; rw [HRN.out, if_pos HX.out, HY.out, HYP.out, HD1.out]; omega), _, by first | rfl | exact World.drewN_drewN _ _ _⟩
            · have c1z : decide (x + r < f.length) = false := decide_eq_false c1
              have c1y : ¬ (x : Int) + (r : Int) < (f.length : Int) := by omega
              have HX := Aside0.mk c1
              go_wp2_with fail
              go_meet
              case rel => exact ⟨congrArg (Value.int .i64) (by unfold deepAt; simp only; rw [HRN.out, if_neg HX.out, HY.out, HD1.out]), _, by first | rfl | exact World.drewN_drewN _ _ _⟩
          case rest =>
            obtain ⟨rfl, nd, rfl⟩ := hcut
            obtain ⟨dp, hdp⟩ : ∃ dp, deepAt H f x = dp := ⟨_, rfl⟩
            have HDP := Aside0.mk hdp
            have hdb : 0 ≤ dp ∧ dp ≤ H := by rw [← hdp]; exact deepAt_bd (by omega) hlt Hf.out
            rw [hdp]
            clear hdp HD1 hd1b
            have heb := extra_bd hlt Hf.out hH
            go_upto_region 12 with (fail)
            go_cut [3] (fun v3 wc => v3 = .int .i64 (many + extra H f x) ∧ wc = wo.drewN nd)
            case first => as_aux_lemma =>
              have HEB := Aside0.mk heb
              clear heb
              go_wp2_with fail
              all_goals
                go_meet
                case rel =>
                  rename_i h
                  refine ⟨congrArg (Value.int .i64) ?_, rfl⟩
                  have hf := extra_form HRN.out HDP.out
                  have hb := HEB.out
                  rw [show dp + ((x : Int) + (r : Int)) - (x : Int) - 1 = dp + r - 1 by omega, show (x : Int) + (r : Int) - (x : Int) = r by omega] at h
                  try rw [show dp + ((x : Int) + (r : Int)) - (x : Int) - 1 = dp + r - 1 by omega, show (x : Int) + (r : Int) - (x : Int) = r by omega]
                  rw [hf] at hb ⊢
                  generalize (dp + (r : Int) - 1) / (r : Int) = q at h hb ⊢
                  unfold wrap64
                  omega
            case rest =>
              obtain ⟨rfl, rfl⟩ := hcut
              go_upto_block 4 with (fail)
              go_cut [4] (fun v4 wc => Aside0 (Kd.R (Kd.int .i64) 3 wo w.heap.size (fun _ => True) v4 (pop y st).reverse) ∧ ∃ nd, wc = wo.drewN nd)
              case first => as_aux_lemma =>
                go_wp2_with fail
                go_loopg [4] st.length (fun kq v4 wc => ∃ st1 : List Int, st1.length ≤ kq ∧ Aside0 (pop y st1 = pop y st) ∧ Aside0 (st1.length ≤ x) ∧ Aside0 (Kd.R (Kd.int .i64) 3 wo w.heap.size (fun _ => True) v4 st1.reverse) ∧ ∃ nd, wc = wo.drewN nd)
                case atStart => exact ⟨st, by omega, ⟨rfl⟩, HST, HR, _, rfl⟩
                case round =>
                  obtain ⟨st1, hsk, HP, HS1, HR1, nd1, rfl⟩ := hrel
                  cases st1 with
                  | nil =>
                    obtain ⟨A, c, e⟩ := Kd.R_slice HR1.out
                    simp only [List.reverse_nil, List.length_nil] at e
                    subst e
                    go_wp2_with fail
                    go_quiet (fail)
                    go_wp2_with fail
                    go_meet
                    case rel => exact ⟨by rw [← HP.out]; exact HR1, _, by first | rfl | exact World.drewN_drewN _ _ _⟩
                  | cons z s1 =>
                    have hl1 : (z :: s1).reverse.length = s1.length + 1 := by simp
                    obtain ⟨A, c, e⟩ := Kd.R_slice HR1.out
                    rw [hl1] at e
                    subst e
                    have hl63 : s1.length + 1 ≤ 1001 := by have := HS1.out; simp at this; omega
                    obtain ⟨ad, e1, hz⟩ := Kd.at_int (Kd.R_reads' HR1.out).2.2 ((s1.length : Nat) : Int) (by omega) (by rw [hl1]; omega)
                    subst e1
                    have hz2 : rd (z :: s1).reverse ((s1.length : Nat) : Int) = z := by simp [rd]
                    rw [hz2, Int.toNat_natCast] at hz
                    have hb1 := eq_true (show (0 : Int) ≤ (s1.length : Int) by omega)
                    have hb2 := eq_true (show (s1.length : Int) < ((s1.length + 1 : Nat) : Int) by omega)
                    have hb3 := eq_true (show (s1.length : Int) < (s1.length : Int) + 1 by omega)
                    have hzo : wo.cell? (ad.add s1.length) = some (.int .i64 z) := hz
                    have hcc : s1.length + 1 ≤ c := by have := (Kd.R_reads' HR1.out).2.1; omega
                    have hcd := eq_true (show s1.length ≤ c by omega)
                    clear hz2 hl1 hz
                    have hw1 : IntKind.i64.wrap (((s1.length + 1 : Nat) : Int) - 1) = (s1.length : Int) := (i64_w _).trans (by unfold wrap64; omega)
                    have hw2 : IntKind.i64.wrap ((s1.length : Int) + 1 - 1) = (s1.length : Int) := (i64_w _).trans (by unfold wrap64; omega)
                    have hw3 : IntKind.i64.wrap (s1.length : Int) = (s1.length : Int) := (i64_w _).trans (by unfold wrap64; omega)
                    by_cases hzy : z < y
                    · go_wp2_with fail
                      go_quiet (fail)
                      go_wp2_with fail
                      clear hw1 hw2 hw3
                      go_roundg s1.length
                      case measure =>
                        clear hb1 hb2 hb3 hcd hcc
                        simp only [List.length_cons] at hsk
                        omega
                      case rel =>
                        refine ⟨s1, Nat.le_refl _, ⟨by rw [← HP.out]; simp only [pop, if_pos hzy]⟩, ⟨Nat.le_trans (by simp) HS1.out⟩, ⟨?_⟩, _, by first | rfl | exact World.drewN_drewN _ _ _⟩
                        have := Kd.R_take HR1.out (m := s1.length) (by simp)
                        rw [show (z :: s1).reverse.take s1.length = s1.reverse by simp] at this
                        exact this
                    · go_wp2_with fail
                      go_quiet (fail)
                      go_wp2_with fail
                      go_meet
                      case rel => exact ⟨by rw [← HP.out, show pop y (z :: s1) = z :: s1 by simp only [pop, if_neg (Int.not_lt.2 hzy)]]; exact HR1, _, by first | rfl | exact World.drewN_drewN _ _ _⟩
              case rest =>
                obtain ⟨HR4, nd, rfl⟩ := hcut
                obtain ⟨p, hp⟩ : ∃ p, pop y st = p := ⟨_, rfl⟩
                have HPP := Aside0.mk hp
                rw [hp] at HR4
                have HPL : Aside0 (p.length ≤ x) := ⟨by rw [← hp]; exact Nat.le_trans (pop_len _ _) HST.out⟩
                clear hp HR HST
                go_upto_region 15 with (fail)
                go_cut [154] (fun v154 wc => v154 = .bool (pushB y p) ∧ ∃ nd, wc = wo.drewN nd)
                case first => as_aux_lemma =>
                  cases p with
                  | nil =>
                    obtain ⟨A, c, e⟩ := Kd.R_slice HR4.out
                    simp only [List.reverse_nil, List.length_nil] at e
                    subst e
                    go_quiet (fail)
                    go_wp2_with fail
                    go_meet
                    case rel => exact ⟨rfl, _, by first | rfl | exact World.drewN_drewN _ _ _⟩
                  | cons z s1 =>
                    have hyz : y ≤ z := pop_head HPP.out
                    have hl1 : (z :: s1).reverse.length = s1.length + 1 := by simp
                    obtain ⟨A, c, e⟩ := Kd.R_slice HR4.out
                    rw [hl1] at e
                    subst e
                    have hl63 : s1.length + 1 ≤ 1001 := by have := HPL.out; simp at this; omega
                    obtain ⟨ad, e1, hz⟩ := Kd.at_int (Kd.R_reads' HR4.out).2.2 ((s1.length : Nat) : Int) (by omega) (by rw [hl1]; omega)
                    subst e1
                    have hz2 : rd (z :: s1).reverse ((s1.length : Nat) : Int) = z := by simp [rd]
                    rw [hz2, Int.toNat_natCast] at hz
                    have hb1 := eq_true (show (0 : Int) ≤ (s1.length : Int) by omega)
                    have hb2 := eq_true (show (s1.length : Int) < ((s1.length + 1 : Nat) : Int) by omega)
                    have hb3 := eq_true (show (s1.length : Int) < (s1.length : Int) + 1 by omega)
                    clear hz2 hl1
                    have hne : decide (s1.length + 1 = 0) = false := by simp
                    have hw1 : IntKind.i64.wrap (((s1.length + 1 : Nat) : Int) - 1) = (s1.length : Int) := (i64_w _).trans (by unfold wrap64; omega)
                    have hw2 : IntKind.i64.wrap ((s1.length : Int) + 1 - 1) = (s1.length : Int) := (i64_w _).trans (by unfold wrap64; omega)
                    have hw3 : IntKind.i64.wrap (s1.length : Int) = (s1.length : Int) := (i64_w _).trans (by unfold wrap64; omega)
                    go_quiet (fail)
                    go_wp2_with fail
                    go_meet
                    case rel => exact ⟨rfl, _, by first | rfl | exact World.drewN_drewN _ _ _⟩
                case rest =>
                  obtain ⟨rfl, nd2, rfl⟩ := hcut
                  have HMM : Aside0 (∃ m, f.length - (x + r) < m ∧ leastL H f m (x + r) (if pushB y p = true then many + extra H f x + (if y < H then 1 else 0) else many + extra H f x) (if pushB y p = true then y :: p else p) = least H f) := ⟨by
                    obtain ⟨m, hm, h⟩ := HM.out
                    obtain ⟨m, rfl⟩ : ∃ q, m = q + 1 := ⟨m - 1, by omega⟩
                    refine ⟨m, by omega, ?_⟩
                    rw [← h]
                    simp only [leastL, if_pos hlt, HY.out, HRN.out, HPP.out]
                    cases p with
                    | nil => rfl
                    | cons z s1 =>
                      by_cases c : y < z
                      · simp only [pushB, decide_eq_true c, if_pos c, if_true]
                      · have cc : decide (y < z) = false := decide_eq_false c
                        simp only [pushB, cc, if_neg c]
                        rfl⟩
                  clear HM
                  generalize pushB y p = b at HMM
                  cases b with
                  | true =>
                    rw [if_pos rfl, if_pos rfl] at HMM
                    obtain ⟨A, c, e⟩ := Kd.R_slice HR4.out
                    subst e
                    go_upto_region 17 with (first | ((with_reducible refine gate_builtin (b := .append) (xs := #[.tmp 155, .tmp 163]) rfl ?_); at_builtin; refine Kd.R_append (Kd.int .i64) (w0 := w) w.heap.size rfl (.tmp 155) (.tmp 163) 22 3 (.int .i64 0) 8 rfl Try.underlying22 info3 rfl (by decide) (by omega) (.slice A p.reverse.length c) p.reverse y [.int .i64 y] (fun _ => True) (fun _ => False) rfl rfl ?aP (fun _ hk => hk.elim) (fun _ _ => trivial) ?aO ?aB ?aS ?aL ?_; (case aP => exact rfl); (case aB => exact (by repeat (first | (with_reducible first | exact HB.out | apply below_alloc | apply pw_below_drewN | apply below_drew1) | exact HB.out))); (case aO => exact (by (with_reducible repeat (first | apply Kd.R_alloc | apply Kd.R_drewN | apply Kd.R_drew)); exact HR4.out)); (case aS => exact HB.out.size); (case aL => have := HPL.out; simp; omega); intro v71 w12 ho hb hg hat; have n0_ := Aside0.mk hb; have n1_ := Aside0.mk ho; clear ho hb hg hat HR4 c0 c1 c2 hcx))
                    have HF2 := Aside0.mk (HF.out.below n0_.out)
                    have d1 := blk_cell HF2.out.own 1
                    have d2 := blk_cell HF2.out.own 2
                    simp only [List.getElem?_toArray, List.getElem?_cons_zero, List.getElem?_cons_succ] at d1 d2
                    have hcx := HF2.out.col x hlt
                    rw [HY.out] at hcx
                    have HBT := Aside0.mk (fun b W => bit_any b W)
                    by_cases c9 : y < H
                    · have c9z : decide (y < H) = true := decide_eq_true c9
                      rw [if_pos c9] at HMM
                      go_quiet ((go_at_call 73; exact Calls.quiet_of_same (HBT.out _ _)))
                      go_wp2_with fail
                      go_roundg (f.length - (x + r))
                      case measure => omega
                      case rel =>
                        exact ⟨x + r, many + extra H f x + 1, y :: p, by omega, by omega, by first | rfl | go_num, by first | rfl | go_num, by omega, by omega, HMM, ⟨by have := HPL.out; simp only [List.length_cons]; omega⟩, ⟨by (with_reducible repeat (first | apply Kd.R_alloc | apply Kd.R_drewN | apply Kd.R_drew)); rw [List.reverse_cons]; exact n1_.out⟩, ⟨by repeat (first | (with_reducible first | exact n0_.out | apply below_alloc | apply pw_below_drewN | apply below_drew1) | exact n0_.out)⟩⟩
                    · have c9z : decide (y < H) = false := decide_eq_false c9
                      rw [if_neg c9] at HMM
                      go_quiet ((go_at_call 73; exact Calls.quiet_of_same (HBT.out _ _)))
                      go_wp2_with fail
                      go_roundg (f.length - (x + r))
                      case measure => omega
                      case rel =>
                        exact ⟨x + r, many + extra H f x + 0, y :: p, by omega, by omega, by first | rfl | go_num, by first | rfl | go_num, by omega, by omega, HMM, ⟨by have := HPL.out; simp only [List.length_cons]; omega⟩, ⟨by (with_reducible repeat (first | apply Kd.R_alloc | apply Kd.R_drewN | apply Kd.R_drew)); rw [List.reverse_cons]; exact n1_.out⟩, ⟨by repeat (first | (with_reducible first | exact n0_.out | apply below_alloc | apply pw_below_drewN | apply below_drew1) | exact n0_.out)⟩⟩
                  | false =>
                    rw [if_neg (by decide), if_neg (by decide)] at HMM
                    go_wp2_with fail
                    go_roundg (f.length - (x + r))
                    case measure => omega
                    case rel =>
                      exact ⟨x + r, many + extra H f x, p, by omega, by omega, rfl, by go_num, by omega, by omega, HMM, ⟨Nat.le_trans HPL.out (by omega)⟩, ⟨Kd.R_drewN HR4.out _⟩, ⟨pw_below_drewN HB.out _⟩⟩
    · have hlz : decide (x < f.length) = false := decide_eq_false hlt
      have hL : many = least H f := by
        obtain ⟨m, hm, h⟩ := HM.out
        obtain ⟨m, rfl⟩ : ∃ q, m = q + 1 := ⟨m - 1, by omega⟩
        simp only [leastL] at h
        rw [if_neg hlt] at h
        exact h
      have HLL := Aside0.mk hL
      clear hL
      go_wp2
      go_ret
      exact ⟨by rw [HLL.out]; rfl, HB.out⟩
end Go.Proofs.Ytdfcljfajiihdaa.P

namespace Go.Proofs.Ytdfcljfajiihdaa.P
open Go.RowKit Go.Proofs.YtdfcljfajiihdaaW.PrintWords Go.Proofs.YtdfcljfajiihdaaW.PrintLast Go.Proofs.YtdfcljfajiihdaaW.PrintMore
attribute [local go_sem] max2_int min2_int max_two min_two max_three min_three max_four min_four
set_option linter.unusedVariables false
set_option linter.unusedSimpArgs false
def slices_Index_int_int.l0 : Nat → List Int → Int → Int → Int → Option (Int)
  | 0, _, _, _, _ => none
  | k + 1, x0, x1, x7, x8 => if x8 < x7 then (if 0 ≤ x8 then (if x8 < (x0.length : Int) then (if x1 = (rd x0 x8) then (some x8) else (slices_Index_int_int.l0 k x0 x1 x7 (wrap64 (x8 + 1)))) else (none)) else (none)) else (some (-1))
def slices_Index_int_int.f (k : Nat) (l0 : List Int) (a1 : Int) : Option (Int) := slices_Index_int_int.l0 k l0 a1 (l0.length : Int) 0
set_option maxHeartbeats 8000000 in
set_option maxRecDepth 100000 in
theorem slices_Index_int_int.calls (k : Nat) (A0 : Option Addr) (c0 : Nat) (l0 : List Int) (a1 : Int) (r : Int) (w : World) (hr0 : Kd.C (Kd.int .i64) w A0 l0.length l0) (hc0 : l0.length ≤ c0) (h : slices_Index_int_int.f k l0 a1 = some r) :
    Calls Try.prog 101 #[.slice A0 l0.length c0, .int .i64 a1] w fun e w' => e = .returned (.int .i64 r) ∧ Drawn0 w w' := by
  have HR0 := Aside0.mk hr0
  have HC0 := Aside0.mk hc0
  clear hr0 hc0
  have H : (slices_Index_int_int.l0 k l0 a1 (l0.length : Int) 0) = some r := h
  clear h
  have H' := Aside0.mk H
  clear H
  go_enter Try.func101, Try.ntmps101
  go_wp2
  go_loopg [8] k (fun kq v8 w' => ∃ (x8_1 : Int), v8 = .int .i64 x8_1 ∧ Aside0 (slices_Index_int_int.l0 kq l0 a1 (l0.length : Int) x8_1 = some r) ∧ Aside0 (kq ≤ k) ∧ Drawn0 w w')
  case atStart => exact ⟨(0), (by first | rfl | (simp; done) | (simp [*]; done)), H', ⟨Nat.le_refl _⟩, by repeat (first | exact Drawn0.refl _ | apply Drawn0.step)⟩
  case round =>
    clear H'
    try clear c1
    try clear p2
    obtain ⟨x8_1, rfl, HA, HK1, ⟨m1, rfl⟩⟩ := hrel
    cases gk with
    | zero => exact absurd HA.out (by simp [slices_Index_int_int.l0])
    | succ k1 =>
      have H := HA.out
      clear HA
      simp only [slices_Index_int_int.l0] at H
      by_cases c3 : x8_1 < (l0.length : Int)
      · rw [if_pos c3] at H
        have c3b0 : decide (x8_1 < (l0.length : Int)) = true := decide_eq_true c3
        clear c3
        by_cases c4 : 0 ≤ x8_1
        · rw [if_pos c4] at H
          have c4b0 : decide (0 ≤ x8_1) = true := decide_eq_true c4
          clear c4
          by_cases c5 : x8_1 < (l0.length : Int)
          · rw [if_pos c5] at H
            have c5b0 : decide (x8_1 < (l0.length : Int)) = true := decide_eq_true c5
            clear c5
            by_cases c6 : a1 = (rd l0 x8_1)
            · rw [if_pos c6] at H
              have c6b0 : (a1 == (rd l0 x8_1)) = true := beq_iff_eq.mpr c6
              have c6b1 : (a1 != (rd l0 x8_1)) = false := bne_eq_false_iff_eq.mpr c6
              clear c6
              obtain rfl := Option.some.inj H
              have p101 : 0 ≤ (x8_1 : Int) := of_decide_eq_true (by first | (with_reducible assumption) | assumption)
              have q101 : x8_1 < (l0.length : Int) := of_decide_eq_true (by first | (with_reducible assumption) | assumption)
              obtain ⟨ad101, e101, hx101_0⟩ := Kd.at_int HR0.out x8_1 p101 q101
              cases e101
              replace p101 := eq_true p101
              replace q101 := eq_true q101
              go_wp2
              go_ret
              exact ⟨by first | rfl | (simp; done) | (simp [*]; done), by repeat (first | exact Drawn0.refl _ | apply Drawn0.step)⟩
            · rw [if_neg c6] at H
              have c6b0 : (a1 == (rd l0 x8_1)) = false := beq_eq_false_iff_ne.mpr c6
              have c6b1 : (a1 != (rd l0 x8_1)) = true := bne_iff_ne.mpr c6
              have H' := Aside0.mk H
              clear H
              have p101 : 0 ≤ (x8_1 : Int) := of_decide_eq_true (by first | (with_reducible assumption) | assumption)
              have q101 : x8_1 < (l0.length : Int) := of_decide_eq_true (by first | (with_reducible assumption) | assumption)
              obtain ⟨ad101, e101, hx101_0⟩ := Kd.at_int HR0.out x8_1 p101 q101
              cases e101
              replace p101 := eq_true p101
              replace q101 := eq_true q101
              go_wp2
              go_roundg k1
              case measure => have := HK1.out; omega
              case rel => exact ⟨(wrap64 (x8_1 + 1)), (by first | rfl | (simp; done) | (simp [*]; done)), H', ⟨by have := HK1.out; omega⟩, by repeat (first | exact Drawn0.refl _ | apply Drawn0.step)⟩
          · rw [if_neg c5] at H
            exact absurd H (by simp)
        · rw [if_neg c4] at H
          exact absurd H (by simp)
      · rw [if_neg c3] at H
        have c3b0 : decide (x8_1 < (l0.length : Int)) = false := decide_eq_false c3
        clear c3
        obtain rfl := Option.some.inj H
        go_wp2
        go_ret
        exact ⟨by first | rfl | (simp; done) | (simp [*]; done), by repeat (first | exact Drawn0.refl _ | apply Drawn0.step)⟩
end Go.Proofs.Ytdfcljfajiihdaa.P

namespace Go.Proofs.Ytdfcljfajiihdaa.T
set_option linter.unusedVariables false
section
variable {σ α : Type}
def RunQ (Q : σ → α → Prop) (step : σ → α → σ × Bool) : σ → List α → Prop
  | _, [] => True
  | s, t :: l => Q s t ∧ ((step s t).2 = true → RunQ Q step (step s t).1 l)
variable {Q : σ → α → Prop} {step : σ → α → σ × Bool}
theorem RunQ.left : ∀ {A B : List α} {s : σ}, RunQ Q step s (A ++ B) → RunQ Q step s A
  | [], _, _, _ => trivial
  | t :: A, B, s, h => ⟨h.1, fun e => RunQ.left (h.2 e)⟩
theorem RunQ.right : ∀ {A B : List α} {s s' : σ}, RunQ Q step s (A ++ B) → foldE step s A = (s', true) → RunQ Q step s' B
  | [], B, s, s', h, e => by
    simp only [foldE, Prod.mk.injEq, and_true] at e
    subst e; exact h
  | t :: A, B, s, s', h, e => by
    simp only [foldE] at e
    cases c : (step s t).2 with
    | true =>
      have e' : foldE step (step s t).1 A = (s', true) := by
        first
          | (rw [c] at e; simpa using e)
          | (split at e <;> simp_all)
      exact RunQ.right (h.2 c) e'
    | false =>
      exfalso
      first
        | (rw [c] at e; simp at e)
        | (split at e <;> simp_all)
end
end Go.Proofs.Ytdfcljfajiihdaa.T

namespace Go.Proofs.Ytdfcljfajiihdaa.P
open Go.RowKit Go.Proofs.YtdfcljfajiihdaaW.PrintWords Go.Proofs.YtdfcljfajiihdaaW.PrintLast Go.Proofs.YtdfcljfajiihdaaW.PrintMore
attribute [local go_sem] max2_int min2_int max_two min_two max_three min_three max_four min_four
set_option linter.unusedVariables false
set_option linter.unusedSimpArgs false
open Go.Proofs.Ytdfcljfajiihdaa.T Go.Proofs.Ytdfcljfajiihdaa.Gr Go.Proofs.Ytdfcljfajiihdaa.Aid
structure Fr (base : Nat) (X : Nat → Prop) (w w' : World) : Prop where
  os : w'.os = w.os
  tape : w'.tape = w.tape
  output : w'.output = w.output
  size : w.heap.size ≤ w'.heap.size
  block : ∀ k, k < base → ¬ X k → w'.heap[k]? = w.heap[k]?
theorem Fr.refl (base : Nat) (X : Nat → Prop) (w : World) : Fr base X w w := ⟨rfl, rfl, rfl, Nat.le_refl _, fun _ _ _ => rfl⟩
theorem Fr.trans {b b' : Nat} {X X' : Nat → Prop} {w w1 w2 : World} (h : Fr b X w w1) (k : Fr b' X' w1 w2) (hb : b ≤ b') (hx : ∀ j, j < b → X' j → X j) : Fr b X w w2 :=
  ⟨k.os.trans h.os, k.tape.trans h.tape, k.output.trans h.output, Nat.le_trans h.size k.size, fun j hj hn => (k.block j (by omega) (fun hk => hn (hx j hj hk))).trans (h.block j hj hn)⟩
theorem Fr.of_below {b : Nat} {X : Nat → Prop} {w w' : World} (h : Below w.heap.size w w') (hb : b ≤ w.heap.size) : Fr b X w w' := ⟨h.os, h.tape, h.output, h.size, fun k hk _ => h.block k (by omega)⟩
theorem Fr.below {b : Nat} {X : Nat → Prop} {w w1 w2 : World} (h : Fr b X w w1) (k : Below w1.heap.size w1 w2) (hb : b ≤ w.heap.size) : Fr b X w w2 :=
  h.trans (Fr.of_below (X := X) k (Nat.le_trans hb h.size)) (Nat.le_refl _) (fun _ _ hx => hx)
theorem Fr.set_ {b : Nat} {X : Nat → Prop} {w w1 : World} (h : Fr b X w w1) {p : Addr} (hp : b ≤ p.block) (u : Value) : Fr b X w (w1.setCell p u) :=
  ⟨h.os, h.tape, h.output, by simpa [World.setCell] using h.size, fun k hk hn => (Below.heap_setCell w1 p u k (by omega)).trans (h.block k hk hn)⟩
structure Each {σ : Type} (g : Nat) (lb : Array Value) (Q : σ → List Sq → Prop) (step : σ → List Sq → σ × Bool) (I : σ → World → (Nat → Prop) → Prop) : Prop where
  bd : ∀ {s W X}, I s W X → ∀ k, X k → k < W.heap.size
  mv : ∀ {s W W' X}, I s W X → (∀ k, X k → W'.heap[k]? = W.heap[k]?) → I s W' X
  eg : ∀ args w, (callFunc g args).run Try.prog w = .ok (.enter g args) w
  call : ∀ s W X A c sq, I s W X → Kd.C k56 W A sq.length sq → sq.length ≤ c → Q s sq → Calls Try.prog g (#[.slice A sq.length c] ++ lb) W fun e W' =>
    e = .returned (.bool (step s sq).2) ∧ ∃ X', I (step s sq).1 W' X' ∧ (∀ k, X' k → X k ∨ W.heap.size ≤ k) ∧ Fr W.heap.size X W W'
structure FS {σ : Type} (I : σ → World → (Nat → Prop) → Prop) (base F G : Nat) (H most : Int) (ev : Value) (f : List Int) (sq : List Sq) (vS : Value) (s : σ) (X : Nat → Prop) (w : World) : Prop where
  st : I s w X
  fil : Fil w F G H most f vS ev
  row : Kd.R k56 56 w base (fun k => ¬ X k) vS sq
  nF : ¬ X F
  nG : ¬ X G
  size : base ≤ w.heap.size
section
variable {σ : Type} {g : Nat} {lb : Array Value} {Q : σ → List Sq → Prop} {step : σ → List Sq → σ × Bool} {I : σ → World → (Nat → Prop) → Prop} {base F G : Nat} {H most : Int} {ev vS : Value} {f : List Int} {sq : List Sq} {s : σ} {X : Nat → Prop} {w w1 : World}
theorem FS.ne (h : FS I base F G H most ev f sq vS s X w) : F ≠ G := blk_ne h.fil.own h.fil.cols (by decide)
theorem FS.below (E : Each g lb Q step I) (h : FS I base F G H most ev f sq vS s X w) (hb : Below w.heap.size w w1) : FS I base F G H most ev f sq vS s X w1 :=
  ⟨E.mv h.st (fun k hk => hb.block k (E.bd h.st k hk)), h.fil.below hb, Kd.R_below h.row hb, h.nF, h.nG, Nat.le_trans h.size hb.size⟩
theorem FS.col (E : Each g lb Q step I) (h : FS I base F G H most ev f sq vS s X w) (i : Nat) (hi : i < f.length) (v : Int) : FS I base F G H most ev (f.set i v) sq vS s X (w.setCell ⟨G, i, none⟩ (.int .i64 v)) := by
  have hne := h.ne
  refine ⟨E.mv h.st (fun k hk => Below.heap_setCell w _ _ k (fun e => h.nG (by subst e; exact hk))), ⟨?_, ?_⟩, ?_, h.nF, h.nG, by simpa [World.setCell] using h.size⟩
  · rw [List.length_set]
    exact blk_far h.fil.own (p := ⟨G, i, none⟩) hne _
  · refine blk_put h.fil.cols i _ ?_
    simp [List.map_set]
  · exact Kd.R_mono (Kd.R_far (p := ⟨G, i, none⟩) (Kd.R_types h.row h.fil.cols (by decide)) (fun _ hk => hk.2) _) (fun _ hk => hk.1)
theorem FS.put3 (E : Each g lb Q step I) {sq' : List Sq} {v1 : Value} (hst : I s w1 X) (hfil : Fil w1 F G H most f vS ev) (hrow : Kd.R k56 56 w1 base (fun k => ¬ X k) v1 sq') (nF : ¬ X F) (nG : ¬ X G) (hz : base ≤ w1.heap.size) :
    FS I base F G H most ev f sq' v1 s X (w1.setCell ⟨F, 3, none⟩ v1) := by
  have hne : F ≠ G := blk_ne hfil.own hfil.cols (by decide)
  refine ⟨E.mv hst (fun k hk => Below.heap_setCell w1 _ _ k (fun e => nF (by subst e; exact hk))), ⟨?_, ?_⟩, ?_, nF, nG, by simpa [World.setCell] using hz⟩
  · exact blk_put hfil.own 3 _ rfl
  · exact blk_far hfil.cols (p := ⟨F, 3, none⟩) (Ne.symm hne) _
  · exact Kd.R_mono (Kd.R_far (p := ⟨F, 3, none⟩) (Kd.R_types hrow hfil.own (by decide)) (fun _ hk => hk.2) _) (fun _ hk => hk.1)
theorem FS.grown (E : Each g lb Q step I) (h : FS I base F G H most ev f sq vS s X w) (hg : w.grownBy w1 vS.ownBlock) : I s w1 X ∧ Fil w1 F G H most f vS ev ∧ Fr base X w w1 := by
  refine ⟨E.mv h.st (fun k hk => hg.block k (E.bd h.st k hk) (fun e => h.row.1 k e.symm hk)), ⟨blk_grown h.fil.own hg (Kd.R_ne h.row h.fil.own (by decide)), blk_grown h.fil.cols hg (Kd.R_ne h.row h.fil.cols (by decide))⟩, hg.os, hg.tape, hg.output, hg.size, fun k hk _ => hg.block k (Nat.lt_of_lt_of_le hk h.size) (fun e => ?_)⟩
  have := Kd.R_base h.row k e.symm
  omega
theorem FS.cut {q : Sq} {A : Option Addr} {n c : Nat} (E : Each g lb Q step I) (h : FS I base F G H most ev f (sq ++ [q]) (.slice A n c) s X w) : FS I base F G H most ev f sq (.slice A sq.length c) s X (w.setCell ⟨F, 3, none⟩ (.slice A sq.length c)) := by
  refine FS.put3 E h.st h.fil ?_ h.nF h.nG h.size
  have := Kd.R_take h.row (m := sq.length) (by simp)
  rwa [List.take_left] at this
end
section
variable {σ : Type} {g : Nat} {lb : Array Value} {Q : σ → List Sq → Prop} {step : σ → List Sq → σ × Bool} {I : σ → World → (Nat → Prop) → Prop} {base F G : Nat} {H most : Int} {ev vS : Value} {f : List Int} {sq : List Sq} {s s' : σ} {X X' : Nat → Prop} {w w1 : World}
theorem FS.called (h : FS I base F G H most ev f sq vS s X w) (hI : I s' w1 X') (hsub : ∀ k, X' k → X k ∨ w.heap.size ≤ k) (hfr : Fr w.heap.size X w w1) : FS I base F G H most ev f sq vS s' X' w1 := by
  have hF := blk_lt h.fil.own
  have hG := blk_lt h.fil.cols
  refine ⟨hI, ⟨(hfr.block F hF h.nF).trans h.fil.own, (hfr.block G hG h.nG).trans h.fil.cols⟩, ?_, fun hk => ?_, fun hk => ?_, Nat.le_trans h.size hfr.size⟩
  · refine Kd.R_mono (Kd.R_step (Kd.R_bound h.row) (fun k hk hlt => hfr.block k hlt hk.1)) (fun k hk hx => ?_)
    rcases hsub k hx with h1 | h1
    · exact hk.1 h1
    · have := hk.2.2.1; omega
  · rcases hsub F hk with h1 | h1
    · exact h.nF h1
    · omega
  · rcases hsub G hk with h1 | h1
    · exact h.nG h1
    · omega
end
theorem foldE_one {σ α : Type} (step : σ → α → σ × Bool) (s : σ) (t : α) : foldE step s [t] = step s t := by
  simp only [foldE]
  cases c : (step s t).2
  · exact Prod.ext rfl c.symm
  · exact Prod.ext rfl c.symm
theorem leastL_bd {h : Int} {f : List Int} (hh : h ≤ 1000) (hf : ∀ c, c < f.length → 0 ≤ ht f c ∧ ht f c ≤ h) : ∀ (n x : Nat) (many : Int) (st : List Int), x ≤ f.length → leastL h f n x many st ≤ many + 1001 * ((f.length : Int) - x)
  | 0, x, many, st, hx => by simp only [leastL]; omega
  | n + 1, x, many, st, hx => by
    simp only [leastL]
    by_cases c : x < f.length
    · rw [if_pos c]
      have he := extra_bd c hf hh
      have hr := runAt_pos f x c
      have hl := runAt_le f x hx
      cases hp : pop (ht f x) st with
      | nil =>
        have := leastL_bd hh hf n (x + runAt f x) (many + extra h f x + if ht f x < h then 1 else 0) [ht f x] hl
        have h1 : (if ht f x < h then (1 : Int) else 0) ≤ 1 := by split <;> omega
        simp only [hp]
        omega
      | cons z r =>
        simp only [hp]
        by_cases c2 : ht f x < z
        · rw [if_pos c2]
          have := leastL_bd hh hf n (x + runAt f x) (many + extra h f x + if ht f x < h then 1 else 0) (ht f x :: z :: r) hl
          have h1 : (if ht f x < h then (1 : Int) else 0) ≤ 1 := by split <;> omega
          omega
        · rw [if_neg c2]
          have := leastL_bd hh hf n (x + runAt f x) (many + extra h f x) (z :: r) hl
          omega
    · rw [if_neg c]; omega
theorem least_bd {h : Int} {f : List Int} (hh : h ≤ 1000) (hn : f.length ≤ 1000) (hf : ∀ c, c < f.length → 0 ≤ ht f c ∧ ht f c ≤ h) : 0 ≤ least h f ∧ least h f ≤ 1001000 := by
  have h1 := leastL_ge f h (f.length + 1) 0 0 []
  have h2 := leastL_bd hh hf (f.length + 1) 0 0 [] (by omega)
  unfold least
  omega
theorem index_l (f : List Int) (hn : f.length ≤ 1000) (x : Nat) (hx : x < f.length) (hb : ∀ c, c < x → ht f c ≠ ht f x) : ∀ (d i : Nat), i + d = x → Ev (fun k => slices_Index_int_int.l0 k f (ht f x) (f.length : Int) i) (x : Int)
  | 0, i, hd => by
    obtain rfl : i = x := by omega
    exact Ev.step (fun _ => slices_Index_int_int.l0.eq_2 ..) (ev_pos (by omega) (ev_pos (by omega) (ev_pos (by omega) (ev_pos (by simp [rd, ht]) (ev_some rfl)))))
  | d + 1, i, hd => Ev.step (fun _ => slices_Index_int_int.l0.eq_2 ..) (ev_pos (by omega) (ev_pos (by omega) (ev_pos (by omega) (ev_neg (fun e => hb i (by omega) (by rw [e]; simp [rd, ht])) (by
      rw [w64 (by omega) (by omega)]
      exact index_l f hn x hx hb d (i + 1) (by omega))))))
theorem index_low (f : List Int) (hn : f.length ≤ 1000) (hne : f ≠ []) : ∃ k, slices_Index_int_int.f k f (ht f (low f)) = some (low f : Int) := by
  have L := low_spec f hne
  exact ev_at (index_l f hn (low f) L.lt (fun c hc => by have := L.first c hc; omega) (low f) 0 (by omega))
theorem Fil.reads {w : World} {F G : Nat} {H most : Int} {f : List Int} {vS each : Value} (h : Fil w F G H most f vS each) (hn : f.length ≤ 1000) : Kd.C (Kd.int .i64) w (some ⟨G, 0, none⟩) f.length f := by
  refine ⟨rfl, by omega, fun _ => ⟨_, rfl, fun j p hj => ⟨[.int .i64 p], rfl, rfl, fun i u hu => ?_⟩⟩⟩
  have hjl := (List.getElem?_eq_some_iff.1 hj).1
  have hi : i = 0 := by
    have := (List.getElem?_eq_some_iff.1 hu).1
    simpa using this
  subst hi
  injection hu with hu
  subst hu
  rw [add_plain, show j * (Kd.int .i64).sz + 0 = j from by show j * 1 + 0 = j; omega, h.col j hjl]
  simp [ht, hj]
def FillPost {σ : Type} (I : σ → World → (Nat → Prop) → Prop) (base F G : Nat) (H most : Int) (ev : Value) (f : List Int) (sq : List Sq) (X : Nat → Prop) (r : σ × Bool) (w : World) (e : Ending) (w' : World) : Prop :=
  e = .returned (.bool r.2) ∧ ∃ X' vS', FS I base F G H most ev f sq vS' r.1 X' w' ∧ (∀ k, X' k → X k ∨ w.heap.size ≤ k) ∧ Fr base X w w'
set_option maxHeartbeats 8000000 in
set_option maxRecDepth 100000 in
theorem filler_fill {σ : Type} {g : Nat} {lb : Array Value} {Q : σ → List Sq → Prop} {step : σ → List Sq → σ × Bool} {I : σ → World → (Nat → Prop) → Prop} (E : Each g lb Q step I) (base F G : Nat) (H most : Int) (hH : H ≤ 1000) (hbF : base ≤ F) (hbG : base ≤ G) :
    ∀ (n : Nat) (f : List Int) (sq : List Sq) (vS : Value) (s : σ) (X : Nat → Prop) (w : World), FS I base F G H most (.func (.func g) #[] lb) f sq vS s X w → Fits f H → left H f < n → f.length ≤ 1000 → (∀ c, c < f.length → 0 ≤ ht f c) →
      sq.length + left H f ≤ 1000000 → RunQ Q step s (fillP H most n f sq) →
      Calls Try.prog 96 #[.pointer (some ⟨F, 0, none⟩)] w (FillPost I base F G H most (.func (.func g) #[] lb) f sq X (foldE step s (fillP H most n f sq)) w) := by
  intro n
  induction n with
  | zero => intro f sq vS s X w _ _ hn; omega
  | succ n ih =>
    intro f sq vS s X w hFS hfit hleft hlen hpos hsq hQ
    have L := low_spec f hfit.1
    have hcap : ∀ c, c < f.length → 0 ≤ ht f c ∧ ht f c ≤ H := fun c hc => ⟨hpos c hc, hfit.2 c hc⟩
    have hxl := L.lt
    have hyb := hcap _ hxl
    obtain ⟨kI, hI⟩ := index_low f hlen hfit.1
    have HMIN := Aside0.mk (fun W h => slices_Min_int f G W h (by omega) hlen)
    have HIDX := Aside0.mk hI
    have HS := Aside0.mk hFS
    have HIH := Aside0.mk ih
    have HFIT := Aside0.mk hfit
    have HL := Aside0.mk L
    have HCAP := Aside0.mk hcap
    have HQ := Aside0.mk hQ
    have HSQ := Aside0.mk hsq
    have HLEFT := Aside0.mk hleft
    have HE := Aside0.mk E
    clear hI hFS ih hfit L hcap hpos hQ hsq hleft E
    generalize hy : ht f (low f) = y at HMIN HIDX hyb
    have HY := Aside0.mk hy
    clear hy
    generalize hx : low f = x at HIDX hxl HY
    have HX := Aside0.mk hx
    clear hx
    have c0 := blk_cell HS.out.fil.own 0
    have c1 := blk_cell HS.out.fil.own 1
    have c2 := blk_cell HS.out.fil.own 2
    have c3 := blk_cell HS.out.fil.own 3
    have c4 := blk_cell HS.out.fil.own 4
    have c5 := blk_cell HS.out.fil.own 5
    simp only [List.getElem?_toArray, List.getElem?_cons_zero, List.getElem?_cons_succ] at c0 c1 c2 c3 c4 c5
    obtain ⟨A, c, e⟩ := Kd.R_slice HS.out.row
    subst e
    go_enter Try.func96, Try.ntmps96
    go_wp2_with fail
    refine (HMIN.out _ (fun i hi => HS.out.fil.col i hi)).mono ?_
    rintro e w' ⟨rfl, rfl⟩
    by_cases hyH : y = H
    · have hyz : (y == H) = true := by simp [hyH]
      have HYH := Aside0.mk hyH
      clear hyH
      have hfP : fillP H most (n + 1) f sq = [sq] := by simp only [fillP]; rw [HX.out, HY.out, if_pos HYH.out]
      have HFP := Aside0.mk hfP
      clear hfP
      go_wp2_with fail
      have HS2 := Aside0.mk (HS.out.below HE.out ((Below.refl w.heap.size w).drew))
      have HFR2 := Aside0.mk (Fr.of_below (X := X) (b := base) ((Below.refl w.heap.size w).drew) HS.out.size)
      have hZ : Aside0 (w.drew.heap.size = w.heap.size) := ⟨rfl⟩
      go_still_tail 8, (by kernel_rfl)
      change wpList _ _ _ _ _ w.drew
      generalize w.drew = w2 at HS2 HFR2 hZ ⊢
      have eg := HE.out.eg
      have HCALL := Aside0.mk (HE.out.call s w2 X A c sq HS2.out.st (Kd.R_reads' HS2.out.row).2.2 (Kd.R_reads' HS2.out.row).2.1 (by have h_ := HQ.out; rw [HFP.out] at h_; exact h_.1))
      go_wp2_with (go_at_fn g; refine HCALL.out.mono ?_; rintro e w' ⟨rfl, X', hI', hsub, hfr⟩)
      go_ret
      rw [HFP.out, foldE_one]
      exact ⟨rfl, X', _, HS2.out.called hI' hsub hfr, fun k hk => by rw [← hZ.out]; exact hsub k hk, HFR2.out.trans hfr HS2.out.size (fun _ _ hx => hx)⟩
    · have hyz : (y == H) = false := by simp [hyH]
      have HYH := Aside0.mk hyH
      clear hyH
      have hlb := least_bd hH hlen HCAP.out
      have HLE := Aside0.mk (fun W (hW : Below w.heap.size w W) => filler_least W F G H most f _ _ (HS.out.fil.below hW) hlen hH HCAP.out)
      generalize hls : least H f = ls at HLE hlb
      have HLS := Aside0.mk hls
      clear hls
      have hFlt := blk_lt HS.out.fil.own
      have g3 := fun p => cell_gr (p := p) hFlt c3
      have g4 := fun p => cell_gr (p := p) hFlt c4
      have hsl := HSQ.out
      have hw : IntKind.i64.wrap ((sq.length : Int) + ls) = (sq.length : Int) + ls := (i64_w _).trans (w64 (by omega) (by omega))
      go_wp2_with fail
      refine wp_region_gr (by kernel_rfl) (by kernel_rfl) ?_
      repeat (go_big_quiet_step ((go_at_call 100; refine Calls.gr_of (HLE.out _ (Gr.h _)))))
      refine wpQuiet_nil ?_
      intro W2 hw'
      obtain ⟨⟨V2, hB2⟩, hw''⟩ := hw'
      replace hw'' : W2 = V2 := hw''
      subst hw''
      have HS2 := Aside0.mk (HS.out.below HE.out hB2)
      have HFR2 := Aside0.mk (Fr.of_below (X := X) (b := base) hB2 HS.out.size)
      have HSZ := Aside0.mk hB2.size
      clear g3 g4 c0 c1 c2 c3 c4 c5 hB2 hw
      by_cases hpr : most < (sq.length : Int) + ls
      · have hpz : decide (most < (sq.length : Int) + ls) = true := decide_eq_true hpr
        have hfP : fillP H most (n + 1) f sq = [] := by simp only [fillP]; rw [HX.out, HY.out, if_neg HYH.out, HLS.out, if_pos hpr]
        have HFP := Aside0.mk hfP
        clear hfP
        go_wp2_with fail
        go_ret
        rw [HFP.out]
        exact ⟨rfl, X, _, HS2.out, fun k hk => .inl hk, HFR2.out⟩
      · have hpz : decide (most < (sq.length : Int) + ls) = false := decide_eq_false hpr
        have c2 := blk_cell HS2.out.fil.own 2
        simp only [List.getElem?_toArray, List.getElem?_cons_zero, List.getElem?_cons_succ] at c2
        go_wp2_with (go_at_call 101; refine (slices_Index_int_int.calls kI (some ⟨G, 0, none⟩) f.length f y (x : Int) _ (HS2.out.fil.reads hlen) (Nat.le_refl _) HIDX.out).mono ?_; rintro e w' ⟨rfl, ⟨nd, rfl⟩⟩)
        have HS3 := Aside0.mk (HS2.out.below HE.out (pw_below_drewN (Below.refl _ _) nd))
        have HFR3 := Aside0.mk (HFR2.out.below (pw_below_drewN (Below.refl _ _) nd) HS.out.size)
        have HSZ3 : Aside0 (w.heap.size ≤ (W2.drewN nd).heap.size) := HSZ
        generalize W2.drewN nd = W3 at HS3 HFR3 HSZ3 ⊢
        obtain ⟨ch, hch⟩ : ∃ ch : Nat → List (List Sq), (fun (i : Nat) => fillP H most n (place f x (i + 1) (y + (i + 1 : Nat))) (sq ++ [⟨x, y, (i + 1 : Nat)⟩])) = ch := ⟨_, rfl⟩
        have HCH := Aside0.mk hch
        obtain ⟨rm, hrm⟩ : ∃ rm, room f H x = rm := ⟨_, rfl⟩
        have HRM := Aside0.mk hrm
        have hfP : fillP H most (n + 1) f sq = (List.range rm).flatMap ch := by
          simp only [fillP]
          rw [HX.out, HY.out, if_neg HYH.out, HLS.out, if_neg (by omega), hrm, ← hch]
        have HFP := Aside0.mk hfP
        have hrl : rm ≤ 1000 := by
          have := runAt_le f x (by omega)
          rw [← hrm]; unfold room; omega
        clear hfP hch hrm HIDX HMIN HLE HS2 HFR2 c2 hpz hpr
        go_loopg [5] rm (fun kq v5 wc => ∃ (i : Nat) (s1 : σ) (X1 : Nat → Prop) (vS1 : Value), i ≤ rm ∧ rm - i ≤ kq ∧ v5 = .int .i64 ((i + 1 : Nat) : Int) ∧ Aside0 (foldE step s ((List.range i).flatMap ch) = (s1, true)) ∧ Aside0 (FS I base F G H most (.func (.func g) #[] lb) f sq vS1 s1 X1 wc) ∧ Aside0 (∀ k, X1 k → X k ∨ w.heap.size ≤ k) ∧ Aside0 (Fr base X w wc) ∧ Aside0 (w.heap.size ≤ wc.heap.size))
        case atStart => exact ⟨0, s, X, _, by omega, by omega, rfl, ⟨rfl⟩, HS3, ⟨fun k hk => .inl hk⟩, HFR3, HSZ3⟩
        case round =>
          clear HS3 HFR3 HSZ3 HSZ
          obtain ⟨i, s1, X1, vS1, hi, hkq, rfl, HFO, HS1, HSUB, HFR, HSZ⟩ := hrel
          have d0 := blk_cell HS1.out.fil.own 0
          have d1 := blk_cell HS1.out.fil.own 1
          have d2 := blk_cell HS1.out.fil.own 2
          have d3 := blk_cell HS1.out.fil.own 3
          simp only [List.getElem?_toArray, List.getElem?_cons_zero, List.getElem?_cons_succ] at d0 d1 d2 d3
          have hriff := room_iff f H x hxl i (by rw [HY.out]; omega) (by rw [HRM.out]; exact hi)
          rw [HRM.out, HY.out] at hriff
          have HRI := Aside0.mk hriff
          clear hriff
          by_cases hir : i < rm
          · obtain ⟨h1, h2, h3⟩ := HRI.out.1 hir
            have e1 : (x : Int) + ((i : Int) + 1) ≤ (f.length : Int) := by omega
            have e2 : y + ((i : Int) + 1) ≤ H := by omega
            have hcol : wr.cell? ⟨G, x + i, none⟩ = some (.int .i64 y) := by rw [HS1.out.fil.col (x + i) (by omega), h3]
            have H3 := Aside0.mk h3
            clear h3
            have hplen : ∀ k Y, k ≤ i + 1 → (place f x k Y).length = f.length := fun k Y hk => place_length f x k Y (by omega)
            have HPLEN := Aside0.mk hplen
            clear hplen
            go_upto_block 1 with (fail)
            clear d0 d1 d2 d3 hcol
            go_wp2_with fail
            go_loopg [6, 83] (i + 1) (fun kq v6 v83 wc => ∃ (k : Nat), k ≤ i + 1 ∧ i + 1 - k ≤ kq ∧ v83 = .int .i64 (k : Int) ∧ Aside0 (FS I base F G H most (.func (.func g) #[] lb) (place f x k (y + ((i : Int) + 1))) sq vS1 s1 X1 wc) ∧ Aside0 (Fr base X w wc) ∧ Aside0 (w.heap.size ≤ wc.heap.size))
            case atStart => exact ⟨0, by omega, by omega, rfl, by rw [place_zero]; exact HS1, HFR, HSZ⟩
            case round =>
              clear HS1 HFR HSZ
              obtain ⟨k, hk, hkq2, rfl, HS1, HFR, HSZ⟩ := hrel
              have hpl := HPLEN.out k (y + ((i : Int) + 1)) hk
              have d2 := blk_cell HS1.out.fil.own 2
              have d3 := blk_cell HS1.out.fil.own 3
              rw [hpl] at d2
              simp only [List.getElem?_toArray, List.getElem?_cons_zero, List.getElem?_cons_succ] at d2 d3
              by_cases hki : k < i + 1
              · have e3 : (k : Int) < (i : Int) + 1 := by omega
                have e4 : (x : Int) + (k : Int) < (f.length : Int) := by omega
                have hcol := HS1.out.fil.col (x + k) (by rw [hpl]; omega)
                have hfz := blk_frozen HS1.out.fil.cols (x + k)
                clear d3 hpl
                generalize ht (place f x k (y + ((i : Int) + 1))) (x + k) = old at hcol
                go_wp2_with fail
                go_roundg (i + 1 - (k + 1))
                case measure => omega
                case rel =>
                  refine ⟨k + 1, by omega, by omega, by go_num, ⟨?_⟩, ⟨?_⟩, ⟨?_⟩⟩
                  · have := HS1.out.col HE.out (x + k) (by rw [HPLEN.out k _ hk]; omega) (y + ((i : Int) + 1))
                    rwa [place_one f x k _ (by omega)] at this
                  · exact HFR.out.set_ (p := ⟨G, x + k, none⟩) hbG _
                  · have := HSZ.out; simpa [World.setCell] using this
              · have e3 : ¬ (k : Int) < (i : Int) + 1 := by omega
                obtain rfl : k = i + 1 := by omega
                obtain ⟨f1, hf1⟩ : ∃ f1, place f x (i + 1) (y + ((i : Int) + 1)) = f1 := ⟨_, rfl⟩
                have HF1 := Aside0.mk hf1
                rw [hf1] at HS1 hpl
                have hfl : f1.length = f.length := hpl
                have HFL := Aside0.mk hfl
                clear hf1 hpl hfl
                obtain ⟨A1, k1, e1'⟩ := Kd.R_slice HS1.out.row
                subst e1'
                have hz3 := blk_frozen HS1.out.fil.own 3
                have hsl := HSQ.out
                clear d2
                go_wp2_with (first | ((with_reducible refine gate_builtin (b := .append) (xs := #[.tmp 102, .tmp 107]) rfl ?_); at_builtin; refine Kd.R_append k56 (w0 := wr) base rfl (.tmp 102) (.tmp 107) 35 56 (.agg #[(.int .i64 0), (.int .i64 0), (.int .i64 0)]) 24 rfl Try.underlying35 info56 rfl (by decide) (by omega) (.slice A1 sq.length k1) sq (⟨x, y, (i : Int) + 1⟩ : S56) [.int .i64 x, .int .i64 y, .int .i64 ((i : Int) + 1)] (fun k => ¬ X1 k) (fun _ => False) rfl rfl ?aP (fun _ hk => hk.elim) ?aF ?aO ?aB ?aS ?aL ?_; (case aP => exact k56_mkM _ _ _ (⟨x, y, (i : Int) + 1⟩ : S56)); (case aB => exact Below.refl _ _); (case aF => exact (fun k hk hx => by have := HE.out.bd HS1.out.st k hx; omega)); (case aO => exact HS1.out.row); (case aS => exact HS1.out.size); (case aL => omega); intro v71 w12 ho hb hg hat; have n0_ := Aside0.mk (HS1.out.grown HE.out hg); have n1_ := Aside0.mk ho; clear ho hb hg hat d3 hz3; have d3 := blk_cell n0_.out.2.1.own 3; have hz3 := blk_frozen n0_.out.2.1.own 3; (simp only [List.getElem?_toArray, List.getElem?_cons_zero, List.getElem?_cons_succ] at d3); (obtain ⟨A2, k2, e2'⟩ := Kd.R_slice n1_.out); (subst e2')))
                have hq1 : (sq ++ [(⟨x, y, (i : Int) + 1⟩ : S56)]).length = sq.length + 1 := by simp
                have HQ1 := Aside0.mk hq1
                have HSN : Aside0 (FS I base F G H most (.func (.func g) #[] lb) f1 (sq ++ [(⟨x, y, (i : Int) + 1⟩ : S56)]) (.slice A2 (sq.length + 1) k2) s1 X1 (w12.setCell ⟨F, 3, none⟩ (.slice A2 (sq.length + 1) k2))) := ⟨by
                  have := FS.put3 HE.out n0_.out.1 n0_.out.2.1 n1_.out HS1.out.nF HS1.out.nG (Nat.le_trans HS1.out.size n0_.out.2.2.size)
                  rwa [hq1] at this⟩
                have HFRN : Aside0 (Fr base X w (w12.setCell ⟨F, 3, none⟩ (.slice A2 (sq.length + 1) k2))) := ⟨(HFR.out.trans n0_.out.2.2 (Nat.le_refl _) (fun j hj hx => by
                  rcases HSUB.out j hx with h | h
                  · exact h
                  · exact absurd hj (by have := HS.out.size; omega))).set_ (p := ⟨F, 3, none⟩) hbF _⟩
                have HSZN : Aside0 (w.heap.size ≤ (w12.setCell ⟨F, 3, none⟩ (.slice A2 (sq.length + 1) k2)).heap.size) := ⟨by simpa [World.setCell] using Nat.le_trans HSZ.out n0_.out.2.2.size⟩
                clear n0_ n1_ HFR HSZ HS1 hq1 d3 hz3
                generalize w12.setCell ⟨F, 3, none⟩ (.slice A2 (sq.length + 1) k2) = w13 at HSN HFRN HSZN ⊢
                have hSF := step_fits HFIT.out (i := i) (n := n) (by rw [HX.out, HRM.out]; exact hir) HLEFT.out
                rw [HX.out, HY.out, show ((i + 1 : Nat) : Int) = (i : Int) + 1 from rfl, HF1.out] at hSF
                have hch : ch i = fillP H most n f1 (sq ++ [(⟨x, y, (i : Int) + 1⟩ : S56)]) := by rw [← HCH.out, ← HF1.out]; rfl
                have hcap1 : ∀ c, c < f1.length → 0 ≤ ht f1 c := fun c hc => by
                  rw [HFL.out] at hc
                  rw [← HF1.out, ht_place _ _ _ _ (by omega)]
                  have := HCAP.out c hc
                  split <;> omega
                have hleft1 : left H f1 + 1 ≤ left H f := by
                  have h0 := left_place H f x (i + 1) (by omega) (by
                    have h9 := HRM.out
                    unfold room at h9
                    omega) (by omega) (by rw [HY.out]; omega)
                  rw [HY.out, show ((i + 1 : Nat) : Int) = (i : Int) + 1 from rfl, HF1.out] at h0
                  have : 1 ≤ (i + 1) * (i + 1) := Nat.mul_pos (by omega) (by omega)
                  omega
                have hQ1 : RunQ Q step s1 (fillP H most n f1 (sq ++ [(⟨x, y, (i : Int) + 1⟩ : S56)])) := by
                  obtain ⟨rest_, hrest_⟩ := flat_range_at ch i (rm - (i + 1))
                  rw [show i + 1 + (rm - (i + 1)) = rm by omega] at hrest_
                  have h_ := HQ.out
                  rw [HFP.out, hrest_] at h_
                  have h2_ := (RunQ.right h_ HFO.out).left
                  rwa [hch] at h2_
                refine (HIH.out f1 (sq ++ [(⟨x, y, (i : Int) + 1⟩ : S56)]) _ s1 X1 _ HSN.out hSF.1 hSF.2 (by rw [HFL.out]; exact hlen) hcap1 (by rw [HQ1.out]; omega) hQ1).mono ?_
                have HCI := Aside0.mk hch
                clear hSF hch hcap1 hleft1 hQ1
                intro e w' hp
                obtain ⟨he, X2, vS2, hfs2, hsub2, hfr2⟩ := hp
                subst he
                generalize hr : foldE step s1 (fillP H most n f1 (sq ++ [(⟨x, y, (i : Int) + 1⟩ : S56)])) = r at hfs2 ⊢
                obtain ⟨s2, b⟩ := r
                have HR : Aside0 (foldE step s1 (ch i) = (s2, b)) := ⟨by rw [HCI.out]; exact hr⟩
                have HS2 := Aside0.mk hfs2
                have HSUB2 : Aside0 (∀ k, X2 k → X k ∨ w.heap.size ≤ k) := ⟨fun k hk => by
                  rcases hsub2 k hk with h | h
                  · exact HSUB.out k h
                  · exact .inr (Nat.le_trans HSZN.out h)⟩
                have HFR2 : Aside0 (Fr base X w w') := ⟨HFRN.out.trans hfr2 (Nat.le_refl _) (fun j hj hx => by
                  rcases HSUB.out j hx with h | h
                  · exact h
                  · exact absurd hj (by have := HS.out.size; omega))⟩
                have HSZ2 : Aside0 (w.heap.size ≤ w'.heap.size) := ⟨Nat.le_trans HSZN.out hfr2.size⟩
                clear hr hfs2 hsub2 hfr2 HSN HFRN HSZN HCI HSUB
                obtain ⟨A4, k4, e4'⟩ := Kd.R_slice HS2.out.row
                rw [HQ1.out] at e4'
                subst e4'
                have hk4 : sq.length + 1 ≤ k4 := (Kd.R_reads' HS2.out.row).2.1
                have d3 := blk_cell HS2.out.fil.own 3
                have hz3 := blk_frozen HS2.out.fil.own 3
                simp only [List.getElem?_toArray, List.getElem?_cons_zero, List.getElem?_cons_succ] at d3
                have q1 := eq_true (show sq.length ≤ k4 by omega)
                have q2 := eq_true (show (0 : Int) ≤ (sq.length : Int) by omega)
                go_upto_region 17 with (fail)
                clear e3
                have hw1 : IntKind.i64.wrap (((sq.length + 1 : Nat) : Int) - 1) = (sq.length : Int) := (i64_w _).trans (by unfold wrap64; omega)
                have hw2 : IntKind.i64.wrap ((sq.length : Int) + 1 - 1) = (sq.length : Int) := (i64_w _).trans (by unfold wrap64; omega)
                have hw3 : IntKind.i64.wrap (sq.length : Int) = (sq.length : Int) := (i64_w _).trans (by unfold wrap64; omega)
                go_region
                clear hw1 hw2 hw3 q1 q2 d3 hz3
                have HS3 : Aside0 (FS I base F G H most (.func (.func g) #[] lb) f1 sq (.slice A4 sq.length k4) s2 X2 (w'.setCell ⟨F, 3, none⟩ (.slice A4 sq.length k4)).drew) := ⟨(HS2.out.cut HE.out).below HE.out ((Below.refl _ _).drew)⟩
                have HFR3 : Aside0 (Fr base X w (w'.setCell ⟨F, 3, none⟩ (.slice A4 sq.length k4)).drew) := ⟨(HFR2.out.set_ (p := ⟨F, 3, none⟩) hbF _).below ((Below.refl _ _).drew) HS.out.size⟩
                have HSZ3 : Aside0 (w.heap.size ≤ (w'.setCell ⟨F, 3, none⟩ (.slice A4 sq.length k4)).drew.heap.size) := ⟨by have := HSZ2.out; simpa [World.setCell] using this⟩
                clear HS2 HFR2 HSZ2
                generalize (w'.setCell ⟨F, 3, none⟩ (.slice A4 sq.length k4)).drew = w14 at HS3 HFR3 HSZ3 ⊢
                have e1 : (x : Int) + ((i : Int) + 1) ≤ (f.length : Int) := by omega
                have HPL2 : Aside0 (∀ k, k ≤ i + 1 → (place f1 x k y).length = f.length) := ⟨fun k hk => by rw [place_length f1 x k y (by rw [HFL.out]; omega)]; exact HFL.out⟩
                go_wp2_with fail
                go_loopg [8, 128] (i + 1) (fun kq v8 v128 wc => ∃ (k : Nat), k ≤ i + 1 ∧ i + 1 - k ≤ kq ∧ v128 = .int .i64 (k : Int) ∧ Aside0 (FS I base F G H most (.func (.func g) #[] lb) (place f1 x k y) sq (.slice A4 sq.length k4) s2 X2 wc) ∧ Aside0 (Fr base X w wc) ∧ Aside0 (w.heap.size ≤ wc.heap.size))
                case atStart => exact ⟨0, by omega, by omega, rfl, by rw [place_zero]; exact HS3, HFR3, HSZ3⟩
                case round =>
                  clear HS3 HFR3 HSZ3
                  obtain ⟨k, hk, hkq3, rfl, HS3, HFR3, HSZ3⟩ := hrel
                  have hpl := HPL2.out k hk
                  have d2 := blk_cell HS3.out.fil.own 2
                  rw [hpl] at d2
                  simp only [List.getElem?_toArray, List.getElem?_cons_zero, List.getElem?_cons_succ] at d2
                  by_cases hki : k < i + 1
                  · have e3 : (k : Int) < (i : Int) + 1 := by omega
                    have e4 : (x : Int) + (k : Int) < (f.length : Int) := by omega
                    have hcol := HS3.out.fil.col (x + k) (by rw [hpl]; omega)
                    have hfz := blk_frozen HS3.out.fil.cols (x + k)
                    clear hpl
                    generalize ht (place f1 x k y) (x + k) = old at hcol
                    go_wp2_with fail
                    go_roundg (i + 1 - (k + 1))
                    case measure => omega
                    case rel =>
                      refine ⟨k + 1, by omega, by omega, by go_num, ⟨?_⟩, ⟨?_⟩, ⟨?_⟩⟩
                      · have := HS3.out.col HE.out (x + k) (by rw [HPL2.out k hk]; omega) y
                        rwa [place_one f1 x k _ (by rw [HFL.out]; omega)] at this
                      · exact HFR3.out.set_ (p := ⟨G, x + k, none⟩) hbG _
                      · have := HSZ3.out; simpa [World.setCell] using this
                  · have e3 : ¬ (k : Int) < (i : Int) + 1 := by omega
                    obtain rfl : k = i + 1 := by omega
                    have hback : place f1 x (i + 1) y = f := by
                      rw [← HF1.out]
                      exact place_back f x (i + 1) _ y (by omega) (fun j hj => by
                        have h9 := HRM.out
                        unfold room at h9
                        rw [runAt_eq f x j (by omega), HY.out])
                    rw [hback] at HS3
                    clear hback d2 hpl
                    cases b with
                    | true =>
                      go_wp2_with fail
                      go_roundg (rm - (i + 1))
                      case measure => omega
                      case rel => exact ⟨i + 1, s2, X2, _, by omega, by omega, by go_num, ⟨by rw [flat_range_succ, foldE_on _ _ _ _ _ HFO.out]; exact HR.out⟩, HS3, HSUB2, HFR3, HSZ3⟩
                    | false =>
                      have hfin : foldE step s (fillP H most (n + 1) f sq) = (s2, false) := by
                        obtain ⟨rest, hrest⟩ := flat_range_at ch i (rm - (i + 1))
                        rw [show i + 1 + (rm - (i + 1)) = rm by omega] at hrest
                        rw [HFP.out, hrest, foldE_on _ _ _ _ _ HFO.out]
                        exact foldE_off _ _ _ _ _ HR.out
                      have HFIN := Aside0.mk hfin
                      clear hfin
                      go_wp2_with fail
                      go_ret
                      rw [HFIN.out]
                      exact ⟨rfl, X2, _, HS3.out, HSUB2.out, HFR3.out⟩
          · have hii : i = rm := by omega
            have HFQ : Aside0 (foldE step s (fillP H most (n + 1) f sq) = (s1, true)) := ⟨by rw [HFP.out, ← hii]; exact HFO.out⟩
            have hn3 : ¬ (x + (i + 1) ≤ f.length ∧ y + ((i + 1 : Nat) : Int) ≤ H ∧ ht f (x + i) = y) := fun h => hir (HRI.out.2 h)
            have HN3 := Aside0.mk hn3
            clear hn3 hii
            by_cases h1 : (x : Int) + ((i : Int) + 1) ≤ (f.length : Int)
            · by_cases h2 : y + ((i : Int) + 1) ≤ H
              · have h3 : (ht f (x + i) == y) = false := by
                  rw [beq_eq_false_iff_ne]
                  exact fun h => HN3.out ⟨by omega, by omega, h⟩
                have hcol : wr.cell? ⟨G, x + i, none⟩ = some (.int .i64 (ht f (x + i))) := HS1.out.fil.col (x + i) (by omega)
                generalize ht f (x + i) = yy at h3 hcol
                go_wp2_with fail
                go_ret
                rw [HFQ.out]
                exact ⟨rfl, X1, _, HS1.out, HSUB.out, HFR.out⟩
              · go_wp2_with fail
                go_ret
                rw [HFQ.out]
                exact ⟨rfl, X1, _, HS1.out, HSUB.out, HFR.out⟩
            · go_wp2_with fail
              go_ret
              rw [HFQ.out]
              exact ⟨rfl, X1, _, HS1.out, HSUB.out, HFR.out⟩
end Go.Proofs.Ytdfcljfajiihdaa.P
