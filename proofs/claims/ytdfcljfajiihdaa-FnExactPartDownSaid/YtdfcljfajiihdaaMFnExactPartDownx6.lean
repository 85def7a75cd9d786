import Derived.Test.YtdfcljfajiihdaaMFnExactPartDownx0
import Derived.Test.YtdfcljfajiihdaaMFnExactPartDownx1
import Derived.Test.YtdfcljfajiihdaaMFnExactPartDownx2
import Derived.Test.YtdfcljfajiihdaaMFnExactPartDownx3
import Derived.Test.YtdfcljfajiihdaaMFnExactPartDownx4
import Derived.Test.YtdfcljfajiihdaaMFnExactPartDownx5
import Derived.Lib.SmallJoins
import Derived.Deep.Slices
import Derived.ChangeArms
import Derived.ChangeShapes
import Derived.ChangeSlices
namespace Go.Proofs.Ytdfcljfajiihdaa.P
open Go.RowKit Go.Proofs.YtdfcljfajiihdaaW.PrintWords Go.Proofs.YtdfcljfajiihdaaW.PrintLast Go.Proofs.Ytdfcljfajiihdaa.Wm
attribute [local go_sem] max2_int min2_int max_two min_two
set_option linter.unusedVariables false
set_option linter.unusedSimpArgs false
def laws_markCut.f (k : Nat) (a0_0 : Int) (a0_1 : Int) (l0_2 : List (S56)) (a1 : Int) : Option (Int × (List (S56))) := (laws_markSquareS.f k l0_2 a1).bind fun bt102 => (some (bt102.1, bt102.2))
set_option maxHeartbeats 8000000 in
set_option maxRecDepth 100000 in
theorem laws_markCut.calls (k : Nat) (a0_0 : Int) (a0_1 : Int) (P0_2_ : Nat → Prop) (u9000_ : Value) (l0_2 : List (S56)) (a1 : Int) (r1 : Int) (r2 : List (S56)) (w0 w : World) (hB : Below w0.heap.size w0 w) (ho0_2 : Kd.R k56 56 w w0.heap.size P0_2_ u9000_ l0_2) (h : laws_markCut.f k a0_0 a0_1 l0_2 a1 = some (r1, r2)) :
    Calls Try.prog 21 #[.agg #[.int .i64 a0_0, .int .i64 a0_1, u9000_], .int .i64 a1] w fun e w' => e = .returned (.int .i64 r1) ∧ Kd.R k56 56 w' w0.heap.size (fun k_ => (P0_2_ k_ ∨ w.heap.size ≤ k_)) u9000_ r2 ∧ Below w0.heap.size w0 w' ∧ Kept w w' (fun k_ => P0_2_ k_) := by
  have hu37 := Try.underlying37
  have HO0_2 := Aside0.mk (show Kd.R k56 56 w w0.heap.size (fun k_ => (P0_2_ k_ ∨ w.heap.size ≤ k_)) u9000_ l0_2 from Kd.R_mono ho0_2 (fun k_ hk => (.inl hk)))
  have HK := Aside0.mk (Kept.refl w (fun k_ => P0_2_ k_))
  have HW0 := Aside0.mk hB.size
  have HB := Aside0.mk hB
  clear hB
  have H : ((laws_markSquareS.f k l0_2 a1).bind fun bt102 => (some (bt102.1, bt102.2))) = some (r1, r2) := h
  clear h
  replace H := Option.bind_eq_some_iff.mp H
  obtain ⟨⟨t102, t103⟩, A30, H⟩ := H
  replace H : (some (t102, t103)) = some (r1, r2) := H
  have A3 := Aside0.mk A30
  clear A30
  simp only [Option.some.injEq, Prod.mk.injEq] at H
  obtain ⟨rfl, rfl⟩ := H
  obtain ⟨Ao4, co4, eo4⟩ := Kd.R_slice HO0_2.out
  subst eo4
  go_enter Try.func21, Try.ntmps21
  go_wp2_with (first | ((with_reducible refine gate_dst (N := 2) rfl ?_); refine box_event ?hg (N := 2) ?hd (cs := #[.int .i64 a0_0, .int .i64 a0_1, .slice Ao4 l0_2.length co4]) (t := 37) ?hr ?_; (case hd => rfl); (case hg => rfl); (case hr => first | (go_simp; done) | (go_simp; rfl)); intro gb101 hg w5 hbox hb; have n0_ := Aside0.mk (Kd.R_below (by (with_reducible repeat (first | apply Kd.R_alloc | apply Kd.R_drewN | apply Kd.R_drew)); exact HO0_2.out) hb); have n1_ := Aside0.mk (Kept.below (S := (fun k_ => P0_2_ k_)) (by repeat (first | (with_reducible first | exact HK.out | apply Kept.alloc | apply Kept.drewN | apply Kept.drew) | exact HK.out)) hb); have n2_ := Aside0.mk (below_step (by repeat (first | (with_reducible first | exact HB.out | apply below_alloc | apply pw_below_drewN | apply below_drew1) | exact HB.out)) hb); have n3_ := Aside0.mk (hbox); have n4_ := Aside0.mk ((by rw [hg]; exact (by first | exact HK.out.1 | exact (show Kept w _ (fun k_ => P0_2_ k_) from by repeat (first | (with_reducible first | exact HK.out | apply Kept.alloc | apply Kept.drewN | apply Kept.drew) | exact HK.out)).1) : w.heap.size ≤ gb101)); have n5_ := Aside0.mk ((by rw [hg]; exact (below_size (by repeat (first | (with_reducible first | exact HB.out | apply below_alloc | apply pw_below_drewN | apply below_drew1) | exact HB.out))) : w0.heap.size ≤ gb101)); clear HO0_2; clear HK; clear HB; have HO0_2 := n0_; have HK := n1_; have HB := n2_; have BK101 := n3_; have GW101 := n4_; have GE101 := n5_; clear n0_ n1_ n2_ n3_ n4_ n5_; clear hb hbox hg; have hcz6_0 : w5.cell? ⟨gb101, 0, none⟩ = some (.int .i64 a0_0) := (blk_cell BK101.out 0).trans rfl; have hcz6_1 : w5.cell? ⟨gb101, 1, none⟩ = some (.int .i64 a0_1) := (blk_cell BK101.out 1).trans rfl; have hcz6_2 : w5.cell? ⟨gb101, 2, none⟩ = some (.slice Ao4 l0_2.length co4) := (blk_cell BK101.out 2).trans rfl; have hfz6_0 := blk_frozen BK101.out 0; have hfz6_1 := blk_frozen BK101.out 1; have hfz6_2 := blk_frozen BK101.out 2) | ((with_reducible refine gate_callee (f := 48) rfl ?_); refine goesL_ (some 8) rfl rfl Try.func48 (by kernel_rfl) rfl #[.slice Ao4 l0_2.length co4, .int .i64 a1] rfl (by (try simp only [List.map_toArray, List.map_cons, List.map_nil]); first | done | rfl | (simp only [List.length_drop, List.length_take]; rfl)) ?_; (with_reducible refine (laws_markSquareS.calls k (fun k_ => some k_ = (.slice Ao4 l0_2.length co4 : Value).ownBlock) (.slice Ao4 l0_2.length co4) l0_2 a1 t102 t103 w0 _ ?side1 ?side2 A3.out).mono ?_); (case side1 => repeat (first | (with_reducible first | exact HB.out | apply below_alloc | apply pw_below_drewN | apply below_drew1 | refine below_set ?_ GE101.out) | exact HB.out)); (case side2 => exact Kd.R_tight rfl HO0_2.out); rintro e w7 ⟨rfl, hy0, hb, hkp⟩; refine ⟨_, rfl, ?_⟩; have n0_ := Aside0.mk (Kd.R_reok rfl hy0 (fun k_ e_ => HO0_2.out.1 k_ e_)); have n1_ := Aside0.mk (blk_kept (by (with_reducible repeat (first | refine blk_drewN ?_ _ | refine blk_drew ?_ | refine blk_alloc ?_ _)); exact BK101.out) hkp (fun hs_ => (fun e_ => (Kd.R_ne HO0_2.out BK101.out (by decide)) e_) hs_)); have n2_ := Aside0.mk (Kept.then_ (S := (fun k_ => P0_2_ k_)) (by repeat (first | (with_reducible first | exact HK.out | apply Kept.alloc | apply Kept.drewN | apply Kept.drew | refine Kept.setCell ?_ (.inr GW101.out) _) | exact HK.out)) hkp (fun k_ hs_ => (fun e_ => (HO0_2.out.1 k_ e_.symm)) hs_)); have n3_ := Aside0.mk (hb); clear HO0_2; clear BK101; clear HK; clear HB; have HO0_2 := n0_; have BK101 := n1_; have HK := n2_; have HB := n3_; clear n0_ n1_ n2_ n3_; (try clear hb); (try clear hkp); (try clear hy0)))
  go_ret
  exact ⟨by first | rfl | (simp [errW_none, errW_some] <;> rfl) | (simp [*, errW_none, errW_some] <;> rfl), by (with_reducible repeat (first | apply Kd.R_alloc | apply Kd.R_drewN | apply Kd.R_drew)); exact HO0_2.out, by repeat (first | (with_reducible first | exact HB.out | apply below_alloc | apply pw_below_drewN | apply below_drew1 | refine below_set ?_ GE101.out) | exact HB.out), by repeat (first | (with_reducible first | exact HK.out | apply Kept.alloc | apply Kept.drewN | apply Kept.drew | refine Kept.setCell ?_ (.inr GW101.out) _) | exact HK.out)⟩
end Go.Proofs.Ytdfcljfajiihdaa.P

namespace Go.Proofs.Ytdfcljfajiihdaa.P
open Go.RowKit Go.Proofs.YtdfcljfajiihdaaW.PrintWords Go.Proofs.YtdfcljfajiihdaaW.PrintLast Go.Proofs.Ytdfcljfajiihdaa.Wm
attribute [local go_sem] max2_int min2_int max_two min_two
set_option linter.unusedVariables false
set_option linter.unusedSimpArgs false
def laws_heldSquareS.l0 : Nat → List (S56) → Int → Int → Option (Int)
  | 0, _, _, _ => none
  | k + 1, x0, x1, x5 => if x5 < (x0.length : Int) then (if 0 ≤ x5 then (if ((rd_T56 x0 x5).f0) = x1 then (if ((rd_T56 x0 x5).f1) = (wrap64 (x1 + 1)) then (if ((rd_T56 x0 x5).f2) = (wrap64 ((wrap64 (x1 + 1)) + 1)) then (laws_heldSquareS.l0 k x0 (wrap64 ((wrap64 ((wrap64 (x1 + 1)) + 1)) + 1)) (wrap64 (x5 + 1))) else (some (-1))) else (some (-1))) else (some (-1))) else (none)) else (some x1)
def laws_heldSquareS.f (k : Nat) (l0 : List (S56)) (a1 : Int) : Option (Int) := laws_heldSquareS.l0 k l0 a1 0
set_option maxHeartbeats 8000000 in
set_option maxRecDepth 100000 in
theorem laws_heldSquareS.calls (k : Nat) (A0 : Option Addr) (c0 : Nat) (l0 : List (S56)) (a1 : Int) (r : Int) (w : World) (hr0 : Kd.C k56 w A0 l0.length l0) (hc0 : l0.length ≤ c0) (h : laws_heldSquareS.f k l0 a1 = some r) :
    Calls Try.prog 49 #[.slice A0 l0.length c0, .int .i64 a1] w fun e w' => e = .returned (.int .i64 r) ∧ Drawn0 w w' := by
  have HR0 := Aside0.mk hr0
  have HC0 := Aside0.mk hc0
  clear hr0 hc0
  have H : (laws_heldSquareS.l0 k l0 a1 0) = some r := h
  clear h
  have H' := Aside0.mk H
  clear H
  go_enter Try.func49, Try.ntmps49
  go_wp2
  go_loopg [1, 5] k (fun kq v1 v5 w' => ∃ (x1_1 : Int) (x5_1 : Int), v1 = .int .i64 x1_1 ∧ v5 = .int .i64 x5_1 ∧ Aside0 (laws_heldSquareS.l0 kq l0 x1_1 x5_1 = some r) ∧ Aside0 (kq ≤ k) ∧ Drawn0 w w')
  case atStart => exact ⟨(a1), (0), (by first | rfl | (simp; done) | (simp [*]; done)), (by first | rfl | (simp; done) | (simp [*]; done)), H', ⟨Nat.le_refl _⟩, by repeat (first | exact Drawn0.refl _ | apply Drawn0.step)⟩
  case round =>
    clear H'
    try clear p2
    obtain ⟨x1_1, x5_1, rfl, rfl, HA, HK1, ⟨m1, rfl⟩⟩ := hrel
    cases gk with
    | zero => exact absurd HA.out (by simp [laws_heldSquareS.l0])
    | succ k1 =>
      have H := HA.out
      clear HA
      simp only [laws_heldSquareS.l0] at H
      by_cases c3 : x5_1 < (l0.length : Int)
      · rw [if_pos c3] at H
        have c3b0 : decide (x5_1 < (l0.length : Int)) = true := decide_eq_true c3
        clear c3
        by_cases c4 : 0 ≤ x5_1
        · rw [if_pos c4] at H
          have c4b0 : decide (0 ≤ x5_1) = true := decide_eq_true c4
          clear c4
          by_cases c5 : ((rd_T56 l0 x5_1).f0) = x1_1
          · rw [if_pos c5] at H
            have c5b0 : (((rd_T56 l0 x5_1).f0) == x1_1) = true := beq_iff_eq.mpr c5
            have c5b1 : (((rd_T56 l0 x5_1).f0) != x1_1) = false := bne_eq_false_iff_eq.mpr c5
            clear c5
            by_cases c6 : ((rd_T56 l0 x5_1).f1) = (wrap64 (x1_1 + 1))
            · rw [if_pos c6] at H
              have c6b0 : (((rd_T56 l0 x5_1).f1) == (wrap64 (x1_1 + 1))) = true := beq_iff_eq.mpr c6
              have c6b1 : (((rd_T56 l0 x5_1).f1) != (wrap64 (x1_1 + 1))) = false := bne_eq_false_iff_eq.mpr c6
              clear c6
              by_cases c7 : ((rd_T56 l0 x5_1).f2) = (wrap64 ((wrap64 (x1_1 + 1)) + 1))
              · rw [if_pos c7] at H
                have c7b0 : (((rd_T56 l0 x5_1).f2) == (wrap64 ((wrap64 (x1_1 + 1)) + 1))) = true := beq_iff_eq.mpr c7
                have c7b1 : (((rd_T56 l0 x5_1).f2) != (wrap64 ((wrap64 (x1_1 + 1)) + 1))) = false := bne_eq_false_iff_eq.mpr c7
                clear c7
                have H' := Aside0.mk H
                clear H
                have p101 : 0 ≤ (x5_1 : Int) := of_decide_eq_true (by first | (with_reducible assumption) | assumption)
                have q101 : x5_1 < (l0.length : Int) := of_decide_eq_true (by first | (with_reducible assumption) | assumption)
                obtain ⟨ad101, e101, hx101_0, hx101_1, hx101_2⟩ := at_T56 HR0.out x5_1 p101 q101
                cases e101
                replace p101 := eq_true p101
                replace q101 := eq_true q101
                have p102 : 0 ≤ (x5_1 : Int) := of_decide_eq_true (by first | (with_reducible assumption) | assumption)
                have q102 : x5_1 < (l0.length : Int) := of_decide_eq_true (by first | (with_reducible assumption) | assumption)
                obtain ⟨ad102, e102, hx102_0, hx102_1, hx102_2⟩ := at_T56 HR0.out x5_1 p102 q102
                obtain rfl : ad101 = ad102 := (by injection e102)
                replace p102 := eq_true p102
                replace q102 := eq_true q102
                have p103 : 0 ≤ (x5_1 : Int) := of_decide_eq_true (by first | (with_reducible assumption) | assumption)
                have q103 : x5_1 < (l0.length : Int) := of_decide_eq_true (by first | (with_reducible assumption) | assumption)
                obtain ⟨ad103, e103, hx103_0, hx103_1, hx103_2⟩ := at_T56 HR0.out x5_1 p103 q103
                obtain rfl : ad101 = ad103 := (by injection e103)
                replace p103 := eq_true p103
                replace q103 := eq_true q103
                go_wp2
                go_roundg k1
                case measure => have := HK1.out; omega
                case rel => exact ⟨(wrap64 ((wrap64 ((wrap64 (x1_1 + 1)) + 1)) + 1)), (wrap64 (x5_1 + 1)), (by first | rfl | (simp; done) | (simp [*]; done)), (by first | rfl | (simp; done) | (simp [*]; done)), H', ⟨by have := HK1.out; omega⟩, by repeat (first | exact Drawn0.refl _ | apply Drawn0.step)⟩
              · rw [if_neg c7] at H
                have c7b0 : (((rd_T56 l0 x5_1).f2) == (wrap64 ((wrap64 (x1_1 + 1)) + 1))) = false := beq_eq_false_iff_ne.mpr c7
                have c7b1 : (((rd_T56 l0 x5_1).f2) != (wrap64 ((wrap64 (x1_1 + 1)) + 1))) = true := bne_iff_ne.mpr c7
                obtain rfl := Option.some.inj H
                have p101 : 0 ≤ (x5_1 : Int) := of_decide_eq_true (by first | (with_reducible assumption) | assumption)
                have q101 : x5_1 < (l0.length : Int) := of_decide_eq_true (by first | (with_reducible assumption) | assumption)
                obtain ⟨ad101, e101, hx101_0, hx101_1, hx101_2⟩ := at_T56 HR0.out x5_1 p101 q101
                cases e101
                replace p101 := eq_true p101
                replace q101 := eq_true q101
                have p102 : 0 ≤ (x5_1 : Int) := of_decide_eq_true (by first | (with_reducible assumption) | assumption)
                have q102 : x5_1 < (l0.length : Int) := of_decide_eq_true (by first | (with_reducible assumption) | assumption)
                obtain ⟨ad102, e102, hx102_0, hx102_1, hx102_2⟩ := at_T56 HR0.out x5_1 p102 q102
                obtain rfl : ad101 = ad102 := (by injection e102)
                replace p102 := eq_true p102
                replace q102 := eq_true q102
                have p103 : 0 ≤ (x5_1 : Int) := of_decide_eq_true (by first | (with_reducible assumption) | assumption)
                have q103 : x5_1 < (l0.length : Int) := of_decide_eq_true (by first | (with_reducible assumption) | assumption)
                obtain ⟨ad103, e103, hx103_0, hx103_1, hx103_2⟩ := at_T56 HR0.out x5_1 p103 q103
                obtain rfl : ad101 = ad103 := (by injection e103)
                replace p103 := eq_true p103
                replace q103 := eq_true q103
                go_wp2
                go_ret
                exact ⟨by first | rfl | (simp; done) | (simp [*]; done), by repeat (first | exact Drawn0.refl _ | apply Drawn0.step)⟩
            · rw [if_neg c6] at H
              have c6b0 : (((rd_T56 l0 x5_1).f1) == (wrap64 (x1_1 + 1))) = false := beq_eq_false_iff_ne.mpr c6
              have c6b1 : (((rd_T56 l0 x5_1).f1) != (wrap64 (x1_1 + 1))) = true := bne_iff_ne.mpr c6
              obtain rfl := Option.some.inj H
              have p101 : 0 ≤ (x5_1 : Int) := of_decide_eq_true (by first | (with_reducible assumption) | assumption)
              have q101 : x5_1 < (l0.length : Int) := of_decide_eq_true (by first | (with_reducible assumption) | assumption)
              obtain ⟨ad101, e101, hx101_0, hx101_1, hx101_2⟩ := at_T56 HR0.out x5_1 p101 q101
              cases e101
              replace p101 := eq_true p101
              replace q101 := eq_true q101
              have p102 : 0 ≤ (x5_1 : Int) := of_decide_eq_true (by first | (with_reducible assumption) | assumption)
              have q102 : x5_1 < (l0.length : Int) := of_decide_eq_true (by first | (with_reducible assumption) | assumption)
              obtain ⟨ad102, e102, hx102_0, hx102_1, hx102_2⟩ := at_T56 HR0.out x5_1 p102 q102
              obtain rfl : ad101 = ad102 := (by injection e102)
              replace p102 := eq_true p102
              replace q102 := eq_true q102
              go_wp2
              go_ret
              exact ⟨by first | rfl | (simp; done) | (simp [*]; done), by repeat (first | exact Drawn0.refl _ | apply Drawn0.step)⟩
          · rw [if_neg c5] at H
            have c5b0 : (((rd_T56 l0 x5_1).f0) == x1_1) = false := beq_eq_false_iff_ne.mpr c5
            have c5b1 : (((rd_T56 l0 x5_1).f0) != x1_1) = true := bne_iff_ne.mpr c5
            obtain rfl := Option.some.inj H
            have p101 : 0 ≤ (x5_1 : Int) := of_decide_eq_true (by first | (with_reducible assumption) | assumption)
            have q101 : x5_1 < (l0.length : Int) := of_decide_eq_true (by first | (with_reducible assumption) | assumption)
            obtain ⟨ad101, e101, hx101_0, hx101_1, hx101_2⟩ := at_T56 HR0.out x5_1 p101 q101
            cases e101
            replace p101 := eq_true p101
            replace q101 := eq_true q101
            go_wp2
            go_ret
            exact ⟨by first | rfl | (simp; done) | (simp [*]; done), by repeat (first | exact Drawn0.refl _ | apply Drawn0.step)⟩
        · rw [if_neg c4] at H
          exact absurd H (by simp)
      · rw [if_neg c3] at H
        have c3b0 : decide (x5_1 < (l0.length : Int)) = false := decide_eq_false c3
        clear c3
        obtain rfl := Option.some.inj H
        go_wp2
        go_ret
        exact ⟨by first | rfl | (simp; done) | (simp [*]; done), by repeat (first | exact Drawn0.refl _ | apply Drawn0.step)⟩
end Go.Proofs.Ytdfcljfajiihdaa.P

namespace Go.Proofs.Ytdfcljfajiihdaa.P
open Go.RowKit Go.Proofs.YtdfcljfajiihdaaW.PrintWords Go.Proofs.YtdfcljfajiihdaaW.PrintLast Go.Proofs.Ytdfcljfajiihdaa.Wm
attribute [local go_sem] max2_int min2_int max_two min_two
set_option linter.unusedVariables false
set_option linter.unusedSimpArgs false
def laws_heldCut.f (k : Nat) (a0_0 : Int) (a0_1 : Int) (l0_2 : List (S56)) (a1 : Int) : Option (Int) := (laws_heldSquareS.f k l0_2 a1).bind fun t102 => (if t102 < 0 then (some (-1)) else (some t102))
set_option maxHeartbeats 8000000 in
set_option maxRecDepth 100000 in
theorem laws_heldCut.calls (k : Nat) (a0_0 : Int) (a0_1 : Int) (A0_2 : Option Addr) (c0_2 : Nat) (l0_2 : List (S56)) (a1 : Int) (r : Int) (w : World) (hr0_2 : Kd.C k56 w A0_2 l0_2.length l0_2) (hc0_2 : l0_2.length ≤ c0_2) (h : laws_heldCut.f k a0_0 a0_1 l0_2 a1 = some r) :
    Calls Try.prog 22 #[.agg #[.int .i64 a0_0, .int .i64 a0_1, .slice A0_2 l0_2.length c0_2], .int .i64 a1] w fun e w' => e = .returned (.int .i64 r) ∧ Below w.heap.size w w' := by
  have hu37 := Try.underlying37
  have HR0_2 := Aside0.mk hr0_2
  have HC0_2 := Aside0.mk hc0_2
  clear hr0_2 hc0_2
  have HB := Aside0.mk (Below.refl w.heap.size w)
  have H : ((laws_heldSquareS.f k l0_2 a1).bind fun t102 => (if t102 < 0 then (some (-1)) else (some t102))) = some r := h
  clear h
  replace H := Option.bind_eq_some_iff.mp H
  obtain ⟨t102, A30, H⟩ := H
  replace H : (if t102 < 0 then (some (-1)) else (some t102)) = some r := H
  have A3 := Aside0.mk A30
  clear A30
  by_cases c4 : t102 < 0
  · rw [if_pos c4] at H
    have c4b0 : decide (t102 < 0) = true := decide_eq_true c4
    clear c4
    obtain rfl := Option.some.inj H
    go_enter Try.func22, Try.ntmps22
    go_wp2_with (first | ((with_reducible refine gate_dst (N := 2) rfl ?_); refine box_event ?hg (N := 2) ?hd (cs := #[.int .i64 a0_0, .int .i64 a0_1, .slice A0_2 l0_2.length c0_2]) (t := 37) ?hr ?_; (case hd => rfl); (case hg => rfl); (case hr => first | (go_simp; done) | (go_simp; rfl)); intro gb101 hg w5 hbox hb; have n0_ := Aside0.mk (below_step (by repeat (first | (with_reducible first | exact HB.out | apply below_alloc | apply pw_below_drewN | apply below_drew1) | exact HB.out)) hb); have n1_ := Aside0.mk (hbox); have n2_ := Aside0.mk ((by rw [hg]; exact (below_size (by repeat (first | (with_reducible first | exact HB.out | apply below_alloc | apply pw_below_drewN | apply below_drew1) | exact HB.out))) : w.heap.size ≤ gb101)); have n3_ := Aside0.mk ((by rw [hg]; exact (below_size (by repeat (first | (with_reducible first | exact HB.out | apply below_alloc | apply pw_below_drewN | apply below_drew1) | exact HB.out))) : w.heap.size ≤ gb101)); clear HB; have HB := n0_; have BK101 := n1_; have GW101 := n2_; have GE101 := n3_; clear n0_ n1_ n2_ n3_; clear hb hbox hg; have hcz6_0 : w5.cell? ⟨gb101, 0, none⟩ = some (.int .i64 a0_0) := (blk_cell BK101.out 0).trans rfl; have hcz6_1 : w5.cell? ⟨gb101, 1, none⟩ = some (.int .i64 a0_1) := (blk_cell BK101.out 1).trans rfl; have hcz6_2 : w5.cell? ⟨gb101, 2, none⟩ = some (.slice A0_2 l0_2.length c0_2) := (blk_cell BK101.out 2).trans rfl; have hfz6_0 := blk_frozen BK101.out 0; have hfz6_1 := blk_frozen BK101.out 1; have hfz6_2 := blk_frozen BK101.out 2) | ((with_reducible refine gate_callee (f := 49) rfl ?_); refine goesL_ (some 8) rfl rfl Try.func49 (by kernel_rfl) rfl #[.slice A0_2 l0_2.length c0_2, .int .i64 a1] rfl (by (try simp only [List.map_toArray, List.map_cons, List.map_nil]); first | done | rfl | (simp only [List.length_drop, List.length_take]; rfl)) ?_; (with_reducible refine (laws_heldSquareS.calls k _ _ l0_2 a1 t102 _ ?side1 ?side2 A3.out).mono ?_); (case side1 => repeat (first | exact (Kd.C_below HR0_2.out HB.out) | (with_reducible refine Kd.C_alloc ?_ _) | (with_reducible refine Kd.C_drewN ?_ _) | (with_reducible refine Kd.C_drew ?_))); (case side2 => exact HC0_2.out); rintro e w' ⟨rfl, ⟨nd, rfl⟩⟩; refine ⟨_, rfl, ?_⟩))
    go_ret
    exact ⟨by first | rfl | (simp [errW_none, errW_some] <;> rfl) | (simp [*, errW_none, errW_some] <;> rfl), by repeat (first | (with_reducible first | exact HB.out | apply below_alloc | apply pw_below_drewN | apply below_drew1 | refine below_set ?_ GE101.out) | exact HB.out)⟩
  · rw [if_neg c4] at H
    have c4b0 : decide (t102 < 0) = false := decide_eq_false c4
    clear c4
    obtain rfl := Option.some.inj H
    go_enter Try.func22, Try.ntmps22
    go_wp2_with (first | ((with_reducible refine gate_dst (N := 2) rfl ?_); refine box_event ?hg (N := 2) ?hd (cs := #[.int .i64 a0_0, .int .i64 a0_1, .slice A0_2 l0_2.length c0_2]) (t := 37) ?hr ?_; (case hd => rfl); (case hg => rfl); (case hr => first | (go_simp; done) | (go_simp; rfl)); intro gb101 hg w7 hbox hb; have n0_ := Aside0.mk (below_step (by repeat (first | (with_reducible first | exact HB.out | apply below_alloc | apply pw_below_drewN | apply below_drew1) | exact HB.out)) hb); have n1_ := Aside0.mk (hbox); have n2_ := Aside0.mk ((by rw [hg]; exact (below_size (by repeat (first | (with_reducible first | exact HB.out | apply below_alloc | apply pw_below_drewN | apply below_drew1) | exact HB.out))) : w.heap.size ≤ gb101)); have n3_ := Aside0.mk ((by rw [hg]; exact (below_size (by repeat (first | (with_reducible first | exact HB.out | apply below_alloc | apply pw_below_drewN | apply below_drew1) | exact HB.out))) : w.heap.size ≤ gb101)); clear HB; have HB := n0_; have BK101 := n1_; have GW101 := n2_; have GE101 := n3_; clear n0_ n1_ n2_ n3_; clear hb hbox hg; have hcz8_0 : w7.cell? ⟨gb101, 0, none⟩ = some (.int .i64 a0_0) := (blk_cell BK101.out 0).trans rfl; have hcz8_1 : w7.cell? ⟨gb101, 1, none⟩ = some (.int .i64 a0_1) := (blk_cell BK101.out 1).trans rfl; have hcz8_2 : w7.cell? ⟨gb101, 2, none⟩ = some (.slice A0_2 l0_2.length c0_2) := (blk_cell BK101.out 2).trans rfl; have hfz8_0 := blk_frozen BK101.out 0; have hfz8_1 := blk_frozen BK101.out 1; have hfz8_2 := blk_frozen BK101.out 2) | ((with_reducible refine gate_callee (f := 49) rfl ?_); refine goesL_ (some 8) rfl rfl Try.func49 (by kernel_rfl) rfl #[.slice A0_2 l0_2.length c0_2, .int .i64 a1] rfl (by (try simp only [List.map_toArray, List.map_cons, List.map_nil]); first | done | rfl | (simp only [List.length_drop, List.length_take]; rfl)) ?_; (with_reducible refine (laws_heldSquareS.calls k _ _ l0_2 a1 t102 _ ?side1 ?side2 A3.out).mono ?_); (case side1 => repeat (first | exact (Kd.C_below HR0_2.out HB.out) | (with_reducible refine Kd.C_alloc ?_ _) | (with_reducible refine Kd.C_drewN ?_ _) | (with_reducible refine Kd.C_drew ?_))); (case side2 => exact HC0_2.out); rintro e w' ⟨rfl, ⟨nd, rfl⟩⟩; refine ⟨_, rfl, ?_⟩))
    go_ret
    exact ⟨by first | rfl | (simp [errW_none, errW_some] <;> rfl) | (simp [*, errW_none, errW_some] <;> rfl), by repeat (first | (with_reducible first | exact HB.out | apply below_alloc | apply pw_below_drewN | apply below_drew1 | refine below_set ?_ GE101.out) | exact HB.out)⟩
end Go.Proofs.Ytdfcljfajiihdaa.P

namespace Go.Proofs.Ytdfcljfajiihdaa.RowAid
open Go.RowKit Go.ChangeShapes Go.WideShapes Go.Deep Go.Joins Go.Proofs.YtdfcljfajiihdaaW.PrintWords Go.Proofs.Ytdfcljfajiihdaa.T
set_option linter.unusedVariables false
theorem list_of {α : Type} (P : Nat → α → Prop) : ∀ n : Nat, (∀ i, i < n → ∃ x, P i x) → ∃ l : List α, l.length = n ∧ ∀ i x, l[i]? = some x → P i x
  | 0, _ => ⟨[], rfl, fun i x h => by simp at h⟩
  | n + 1, h => by
    obtain ⟨l, hl, hp⟩ := list_of P n (fun i hi => h i (by omega))
    obtain ⟨x, hx⟩ := h n (by omega)
    refine ⟨l ++ [x], by simp [hl], fun i y hy => ?_⟩
    rw [List.getElem?_append] at hy
    split at hy
    · exact hp i y hy
    · have hi : i - l.length = 0 := by
        rcases Nat.eq_zero_or_pos (i - l.length) with h0 | h0
        · exact h0
        · rw [List.getElem?_eq_none (by simp; omega)] at hy; cases hy
      rw [hi] at hy
      injection hy with hy
      subst hy
      rw [show i = n by omega]; exact hx
def kq : Kd Sq := Kd.iso (Kd.pair (Kd.int .i64) (Kd.pair (Kd.int .i64) (Kd.int .i64))) (fun x : Sq => (x.f0, x.f1, x.f2))
def wfq (x : Sq) : Prop := (Lit.int .i64 x.f0).wf = true ∧ (Lit.int .i64 x.f1).wf = true ∧ (Lit.int .i64 x.f2).wf = true
section
variable {H : Type} {enc : TypeId × Value → H} {P : Program} {w : World} {base : Nat} {spare : Nat → Bool} {held : Bool}
theorem open_squares {t e ti : TypeId} {n0 n1 n2 : Field} {fuel : Nat} {v : Value} {x : DataW H × List MemPlace} (ht : P.underlying t = some (.slice e)) (he : P.underlying e = some (.struct #[n0, n1, n2]))
    (hi : P.underlying ti = some (.int .i64)) (h0 : n0.type = ti ∧ n0.offset = 0) (h1 : n1.type = ti ∧ n1.offset = 1) (h2 : n2.type = ti ∧ n2.offset = 2) (hC : P.cellsOf e = 3) (hC1 : P.cellsOf ti = 1)
    (h : DataW.trod enc P w base spare held fuel t [v] = some x) :
    ∃ (A : Option Addr) (c : Nat) (l : List Sq), v = .slice A l.length c ∧ l.length ≤ c ∧ c ≤ maxLen ∧ Kd.C kq w A l.length l ∧ ∀ q ∈ l, wfq q := by
  rcases open_slice ht h with ⟨h, _⟩ | ⟨a, len, cap, m, n, D, Pl, hcs, _, hl, hm, hmm, _, hel⟩
  · injection h with h
    subst h
    exact ⟨none, 0, [], rfl, Nat.le_refl _, Nat.zero_le _, ⟨rfl, by simp, fun h => absurd h (by simp)⟩, fun q hq => by cases hq⟩
  · injection hcs with hv
    subst hv
    have hlm : len ≤ m := by rw [hmm]; split <;> omega
    obtain ⟨l, hll, hp⟩ := list_of (fun i (q : Sq) => wfq q ∧ ∀ j u, [Value.int .i64 q.f0, Value.int .i64 q.f1, Value.int .i64 q.f2][j]? = some u → w.cell? (a.add (i * 3 + j)) = some u) len (fun i hil => by
      obtain ⟨cs, hc, htr⟩ := hel i (by omega)
      obtain ⟨y0, y1, y2, n', _, hcl, e0, e1, e2⟩ := trod_struct3 he htr
      rw [hC] at hcl hc
      obtain ⟨_, _, hat⟩ := World.cells?_some hc
      match cs, hcl with
      | [c0, c1, c2], _ =>
        rw [h0.1, h0.2, hC1] at e0
        rw [h1.1, h1.2, hC1] at e1
        rw [h2.1, h2.2, hC1] at e2
        obtain ⟨z0, q0, _, w0⟩ := DataW.trod_int hi e0
        obtain ⟨z1, q1, _, w1⟩ := DataW.trod_int hi e1
        obtain ⟨z2, q2, _, w2⟩ := DataW.trod_int hi e2
        simp at q0 q1 q2
        subst q0 q1 q2
        refine ⟨⟨z0, z1, z2⟩, ⟨w0, w1, w2⟩, fun j u hu => ?_⟩
        have hj : j < 3 := by have := (List.getElem?_eq_some_iff.1 hu).1; simpa using this
        rw [← Go.Deep.add_add, hat j hj, hu])
    subst hll
    refine ⟨some a, cap, l, rfl, hl, hm, ⟨rfl, by unfold maxLen at hm; omega, fun _ => ⟨a, rfl, fun j p hj => ?_⟩⟩, fun q hq => ?_⟩
    · exact ⟨[.int .i64 p.f0, .int .i64 p.f1, .int .i64 p.f2], rfl, ⟨[.int .i64 p.f0], [.int .i64 p.f1, .int .i64 p.f2], rfl, rfl, ⟨[.int .i64 p.f1], [.int .i64 p.f2], rfl, rfl, rfl⟩⟩, (hp j p hj).2⟩
    · obtain ⟨i, hi'⟩ := List.mem_iff_getElem?.1 hq
      exact (hp i q hi').1
theorem open_cut {r : Reach} {b0 : Nat} {t tsl e ti : TypeId} {f0 f1 f2 n0 n1 n2 : Field} {v : Value} {d : DataW H} {p : List MemPlace} (hs : P.underlying t = some (.struct #[f0, f1, f2])) (hone : oneCellFields P #[f0, f1, f2] = true) (hCt : P.cellsOf t = 3)
    (g0 : f0.type = ti) (g1 : f1.type = ti) (g2 : f2.type = tsl) (ht : P.underlying tsl = some (.slice e)) (he : P.underlying e = some (.struct #[n0, n1, n2]))
    (hi : P.underlying ti = some (.int .i64)) (h0 : n0.type = ti ∧ n0.offset = 0) (h1 : n1.type = ti ∧ n1.offset = 1) (h2 : n2.type = ti ∧ n2.offset = 2) (hC : P.cellsOf e = 3) (hC1 : P.cellsOf ti = 1)
    (hv : Value.okWide P w r b0 t v) (h : DataW.Trod enc P w base spare held t v d p) :
    ∃ (x y : Int) (A : Option Addr) (c : Nat) (l : List Sq), v = .agg #[.int .i64 x, .int .i64 y, .slice A l.length c] ∧ (Lit.int .i64 x).wf = true ∧ (Lit.int .i64 y).wf = true ∧ l.length ≤ c ∧ c ≤ maxLen ∧ Kd.C kq w A l.length l ∧ ∀ q ∈ l, wfq q := by
  obtain ⟨va, vb, vc, ya, yb, yc, n, rfl, _, _, ha, hb, hc⟩ := open_agg3 hs hone hCt hv h
  rw [g0] at ha
  rw [g1] at hb
  rw [g2] at hc
  obtain ⟨x, q0, _, w0⟩ := DataW.trod_int hi ha
  obtain ⟨y, q1, _, w1⟩ := DataW.trod_int hi hb
  injection q0 with q0
  injection q1 with q1
  subst q0 q1
  obtain ⟨A, c, l, rfl, hl, hm, hC', hw⟩ := open_squares ht he hi h0 h1 h2 hC hC1 hc
  exact ⟨x, y, A, c, l, rfl, w0, w1, hl, hm, hC', hw⟩
end
end Go.Proofs.Ytdfcljfajiihdaa.RowAid

namespace Go.Proofs.Ytdfcljfajiihdaa.LawAid
open Go.RowKit Go.Proofs.YtdfcljfajiihdaaW.PrintWords Go.Proofs.YtdfcljfajiihdaaW.PrintLast Go.Proofs.Ytdfcljfajiihdaa.Wm
theorem blk3 {W : World} {g : Nat} {t : TypeId} {a b c : Value} (h : W.heap[g]? = some (.cells #[a, b, c] t (0, 0))) : W.cell? ⟨g, 0, none⟩ = some a ∧ W.cell? ⟨g, 1, none⟩ = some b ∧ W.cell? ⟨g, 2, none⟩ = some c :=
  ⟨(blk_cell h 0).trans rfl, (blk_cell h 1).trans rfl, (blk_cell h 2).trans rfl⟩
section
variable {P : World → Prop} {w W W2 : World} {α : Type} {d : Kd α} {e base : Nat} {ok : Nat → Prop} {v u : Value} {xs : List α}
theorem hs_step (hb : Below W.heap.size W W2) (h : ∀ V, Below W.heap.size W V → P V) : ∀ V, Below W2.heap.size W2 V → P V := fun V hV => h V (hb.trans (hV.mono hb.size))
theorem hs_drew (h : ∀ V, Below W.heap.size W V → P V) : ∀ V, Below W.drew.heap.size W.drew V → P V := hs_step (below_drew (Below.refl _ _)) h
theorem hs_row (ho : d.R e W base ok v xs) (h : ∀ V, Below W.heap.size W V → P V) : ∀ V, Below W.heap.size W V → d.R e V base ok v xs ∧ P V := fun V hV => ⟨Kd.R_below ho hV, h V hV⟩
theorem hs_box {cs : Array Value} {t : TypeId} (n : Nat) (hn : W.heap.size = n) (h : ∀ V, Below W.heap.size W V → P V) : ∀ V, Below (W.alloc (.cells cs t (0, 0))).heap.size (W.alloc (.cells cs t (0, 0))) V → V.heap[n]? = some (.cells cs t (0, 0)) ∧ P V :=
  fun V hV => ⟨blk_below (by rw [← hn]; exact heap_alloc_new W _) hV, hs_step (below_alloc (Below.refl _ _) _) h V hV⟩
theorem ne_new {α' : Type} {d' : Kd α'} {e' base' : Nat} {ok' : Nat → Prop} {ys : List α'} (hu : d'.R e' W base' ok' u ys) (ho : d.R e W2 W.heap.size ok v xs) : ∀ k, v.ownBlock = some k → u.ownBlock = some k → False :=
  fun k h1 h2 => Nat.lt_irrefl _ (Nat.lt_of_lt_of_le (Kd.R_lt hu k h2) (Kd.R_base ho k h1))
theorem row_tight (hE : d.E = []) (ho : d.R e W2 W.heap.size ok v xs) (hb : Below w.heap.size w W) : d.R e W2 w.heap.size (fun k => some k = v.ownBlock) v xs := Kd.R_tight hE (Kd.R_lower ho hb.size)
theorem row_away (h : d.R e W base (fun k => some k = v.ownBlock) v xs) (hk : Kept W W2 (fun k => some k = u.ownBlock)) (hn : ∀ k, v.ownBlock = some k → u.ownBlock = some k → False) : d.R e W2 base (fun k => some k = v.ownBlock) v xs :=
  Kd.R_step h (fun k ho hlt => hk.2 k hlt (fun hs => hn k ho.symm hs.symm))
theorem row_away' (h : d.R e W base (fun k => some k = v.ownBlock) v xs) (hk : Kept W W2 (fun k => some k = u.ownBlock)) (hn : ∀ k, u.ownBlock = some k → v.ownBlock = some k → False) : d.R e W2 base (fun k => some k = v.ownBlock) v xs :=
  Kd.R_step h (fun k ho hlt => hk.2 k hlt (fun hs => hn k hs.symm ho.symm))
theorem box_away {g t : Nat} {cs : Array Value} (h : W.heap[g]? = some (.cells cs t (0, 0))) (hr : d.R e W base ok u xs) (ht : e ≠ t) (hk : Kept W W2 (fun k => some k = u.ownBlock)) : W2.heap[g]? = some (.cells cs t (0, 0)) := blk_kept h hk (Kd.R_ne hr h ht)
theorem hs_blk {o : Obj} {g : Nat} (hb : W.heap[g]? = some o) (h : ∀ V, Below W.heap.size W V → P V) : ∀ V, Below W.heap.size W V → V.heap[g]? = some o ∧ P V := fun V hV => ⟨blk_below hb hV, h V hV⟩
theorem hs_start (hb : Below w.heap.size w W) : ∀ V, Below W.heap.size W V → Below w.heap.size w V := fun V hV => hb.trans (hV.mono hb.size)
end
end Go.Proofs.Ytdfcljfajiihdaa.LawAid

namespace Go.Proofs.Ytdfcljfajiihdaa.P
open Go.RowKit Go.Proofs.YtdfcljfajiihdaaW.PrintWords Go.Proofs.YtdfcljfajiihdaaW.PrintLast Go.Proofs.Ytdfcljfajiihdaa.Wm
attribute [local go_sem] max2_int min2_int max_two min_two
set_option linter.unusedVariables false
set_option linter.unusedSimpArgs false
open Go.Proofs.Ytdfcljfajiihdaa.T Go.Proofs.Ytdfcljfajiihdaa.LawAid
def laws_FnExactPartDown.Pure : Prop := ∀ (a0_0 a0_1 : Int) (l0_2 : List S88), (Lit.int .i64 a0_0).wf = true → (Lit.int .i64 a0_1).wf = true → l0_2.length ≤ maxLen → (∀ q ∈ l0_2, RowAid.wfq q) → ∃ z0, (laws_szCut.f a0_0 a0_1 l0_2 1048576 = some (z0)) ∧ (z0 < 0 ∨ ∃ (r1 : Int) (r2 : Int) (r3 : List Sq) (r4 : Int) (r5 : Int) (r6 : List Sq) (r7 : Bool) (m1 : Int) (ym1 : List Sq) (m2 : Int) (ym2 : List Sq) (m3 : Int) (ym3 : List Sq), (∃ k, laws_toCut.f k a0_0 a0_1 l0_2 = some (a0_0, a0_1, l0_2)) ∧ (∃ k, spec_PartDown.f k a0_0 a0_1 l0_2 = some (r1, r2, r3, r4, r5, r6, r7)) ∧ (∃ k, impl_PartDown.f k a0_0 a0_1 l0_2 = some (r1, r2, r3, r4, r5, r6, r7)) ∧ (∃ k, laws_eqCut.f k r1 r2 r3 r1 r2 r3 = some (true)) ∧ (∃ k, laws_eqCut.f k r4 r5 r6 r4 r5 r6 = some (true)) ∧ (∃ k, laws_eqCut.f k a0_0 a0_1 l0_2 a0_0 a0_1 l0_2 = some (true)) ∧ (∃ k, laws_markCut.f k a0_0 a0_1 l0_2 1 = some (m1, ym1)) ∧ (∃ k, laws_markCut.f k r1 r2 r3 1 = some (m2, ym2)) ∧ (∃ k, laws_markCut.f k r4 r5 r6 m2 = some (m3, ym3)) ∧ (∃ k, laws_heldCut.f k r1 r2 ym2 1 = some (m2)) ∧ (∃ k, laws_heldCut.f k r4 r5 ym3 m2 = some (m3)) ∧ ¬ m1 < 0 ∧ ¬ m2 < 0 ∧ ¬ m3 < 0)
set_option maxHeartbeats 8000000 in
set_option maxRecDepth 100000 in
theorem laws_FnExactPartDown.walk (P : laws_FnExactPartDown.Pure) (a0_0 a0_1 : Int) (A0_2 : Option Addr) (c0_2 : Nat) (l0_2 : List S88) (w : World) (u0_0 : (Lit.int .i64 a0_0).wf = true) (u0_1 : (Lit.int .i64 a0_1).wf = true) (u0_2 : l0_2.length ≤ maxLen) (u0_3 : ∀ q ∈ l0_2, RowAid.wfq q) (hr0_2 : Kd.C k88 w A0_2 l0_2.length l0_2) (hc0_2 : l0_2.length ≤ c0_2) :
    Calls Try.prog 5 #[.agg #[.int .i64 a0_0, .int .i64 a0_1, .slice A0_2 l0_2.length c0_2]] w fun e w' => e = .returned (.bool true) ∧ Below w.heap.size w w' := by
  have HR0 := Aside0.mk hr0_2
  have HC0 := Aside0.mk hc0_2
  clear hr0_2 hc0_2
  have hup0 := Try.underlying33
  have hui := Try.underlying37
  have P := P a0_0 a0_1 l0_2 u0_0 u0_1 u0_2 u0_3
  clear u0_0 u0_1 u0_2 u0_3
  obtain ⟨z0, g1, P⟩ := P
  have G1 := Aside0.mk g1
  clear g1
  by_cases hz : z0 < 0
  · have bz0 := decide_eq_true hz
    clear hz P
    go_enter Try.func5, Try.ntmps5
    have HS1 := Aside0.mk (hs_start (Below.refl w.heap.size w))
    have HS2 := Aside0.mk (hs_box (W := w) (cs := #[.int .i64 a0_0, .int .i64 a0_1, .slice A0_2 l0_2.length c0_2]) (t := 33) w.heap.size rfl HS1.out)
    clear HS1
    obtain ⟨x1a, x1b, x1c⟩ := blk3 (HS2.out _ (Below.refl _ _)).1
    go_wp2_with fail
    refine (laws_szCut.calls (a0_0 := a0_0) (a0_1 := a0_1) (l0_2 := l0_2) (a1 := 1048576) (hr0_2 := Kd.C_below HR0.out (HS2.out _ (Below.refl _ _)).2) (hc0_2 := HC0.out) (w := _) (h := G1.out)).mono ?_
    rintro e w1 ⟨rfl, hb⟩
    have HS3 := Aside0.mk (hs_step hb HS2.out)
    clear HS2
    clear hb
    clear x1a x1b x1c
    go_wp2_with fail
    go_ret
    exact ⟨rfl, (HS3.out _ (Below.refl _ _)).2⟩
  replace P := P.resolve_left hz
  have bz0 := decide_eq_false hz
  clear hz
  obtain ⟨r1, r2, r3, r4, r5, r6, r7, m1, ym1, m2, ym2, m3, ym3, g2, g3, g4, g5, g6, g7, g8, g9, g10, g11, g12, pm1, pm2, pm3⟩ := P
  have G2 := Aside0.mk g2
  have G3 := Aside0.mk g3
  have G4 := Aside0.mk g4
  have G5 := Aside0.mk g5
  have G6 := Aside0.mk g6
  have G7 := Aside0.mk g7
  have G8 := Aside0.mk g8
  have G9 := Aside0.mk g9
  have G10 := Aside0.mk g10
  have G11 := Aside0.mk g11
  have G12 := Aside0.mk g12
  have bm1 := decide_eq_false pm1
  have bm2 := decide_eq_false pm2
  have bm3 := decide_eq_false pm3
  clear g2 g3 g4 g5 g6 g7 g8 g9 g10 g11 g12 pm1 pm2 pm3
  go_enter Try.func5, Try.ntmps5
  have HS1 := Aside0.mk (hs_start (Below.refl w.heap.size w))
  have HS2 := Aside0.mk (hs_box (W := w) (cs := #[.int .i64 a0_0, .int .i64 a0_1, .slice A0_2 l0_2.length c0_2]) (t := 33) w.heap.size rfl HS1.out)
  clear HS1
  obtain ⟨x1a, x1b, x1c⟩ := blk3 (HS2.out _ (Below.refl _ _)).1
  go_wp2_with fail
  refine (laws_szCut.calls (a0_0 := a0_0) (a0_1 := a0_1) (l0_2 := l0_2) (a1 := 1048576) (hr0_2 := Kd.C_below HR0.out (HS2.out _ (Below.refl _ _)).2) (hc0_2 := HC0.out) (w := _) (h := G1.out)).mono ?_
  rintro e w1 ⟨rfl, hb⟩
  have HS3 := Aside0.mk (hs_step hb HS2.out)
  clear HS2
  clear hb
  clear x1a x1b x1c
  obtain ⟨x2a, x2b, x2c⟩ := blk3 (HS3.out _ (Below.refl _ _)).1
  go_wp2_with fail
  refine (laws_toCut.calls (k := _) (a0_0 := a0_0) (a0_1 := a0_1) (l0_2 := l0_2) (hr0_2 := Kd.C_below HR0.out (HS3.out _ (Below.refl _ _)).2) (hc0_2 := HC0.out) (w := _) (h := G2.out.choose_spec)).mono ?_
  rintro e w2 ⟨vw20, rfl, ho0, hb⟩
  replace ho0 := row_tight rfl ho0 (HS3.out _ (Below.refl _ _)).2
  obtain ⟨Aw20, cw20, rfl⟩ := Kd.R_slice ho0
  have HS4 := Aside0.mk (hs_row ho0 (hs_step hb HS3.out))
  clear HS3
  clear hb ho0
  clear x2a x2b x2c
  go_wp2_with fail
  refine (spec_PartDown.calls (k := _) (a0_0 := a0_0) (a0_1 := a0_1) (l0_2 := l0_2) (hr0_2 := (Kd.R_reads' (HS4.out _ (Below.refl _ _)).1).2.2) (hc0_2 := (Kd.R_reads' (HS4.out _ (Below.refl _ _)).1).2.1) (w := _) (h := G3.out.choose_spec)).mono ?_
  rintro e w3 ⟨vw30, vw31, rfl, ho0, ho1, hb⟩
  have NEw30_w20 := Aside0.mk (ne_new (HS4.out _ (Below.refl _ _)).1 ho0)
  have NEw31_w20 := Aside0.mk (ne_new (HS4.out _ (Below.refl _ _)).1 ho1)
  have NEw31_w30 := Aside0.mk (fun k (h1 : vw31.ownBlock = some k) (h2 : vw30.ownBlock = some k) => ho1.1 k h1 h2.symm)
  replace ho0 := row_tight rfl ho0 (HS4.out _ (Below.refl _ _)).2.2
  replace ho1 := row_tight rfl ho1 (HS4.out _ (Below.refl _ _)).2.2
  obtain ⟨Aw30, cw30, rfl⟩ := Kd.R_slice ho0
  obtain ⟨Aw31, cw31, rfl⟩ := Kd.R_slice ho1
  have HS5 := Aside0.mk (hs_row ho1 (hs_row ho0 (hs_step hb HS4.out)))
  clear HS4
  clear hb ho0 ho1
  have HS6 := Aside0.mk (hs_box (W := w3) (cs := #[.int .i64 r1, .int .i64 r2, .slice Aw30 r3.length cw30]) (t := 37) w3.heap.size rfl HS5.out)
  clear HS5
  have HS7 := Aside0.mk (hs_box (W := (w3.alloc (.cells #[.int .i64 r1, .int .i64 r2, .slice Aw30 r3.length cw30] 37))) (cs := #[.int .i64 r4, .int .i64 r5, .slice Aw31 r6.length cw31]) (t := 37) (w3.heap.size + 1) (by simp) HS6.out)
  clear HS6
  have HS8 := Aside0.mk (fun V hV => And.intro (HS7.out V hV).1 (And.intro (HS7.out V hV).2.1 (And.intro (HS7.out V hV).2.2.1 (And.intro (HS7.out V hV).2.2.2.1 (And.intro (HS7.out V hV).2.2.2.2.2.1 ((HS7.out V hV).2.2.2.2.2.2))))))
  clear HS7
  obtain ⟨x3a, x3b, x3c⟩ := blk3 (HS8.out _ (Below.refl _ _)).2.2.2.2.1
  go_wp2_with fail
  refine (laws_toCut.calls (k := _) (a0_0 := a0_0) (a0_1 := a0_1) (l0_2 := l0_2) (hr0_2 := Kd.C_below HR0.out (HS8.out _ (Below.refl _ _)).2.2.2.2.2) (hc0_2 := HC0.out) (w := _) (h := G2.out.choose_spec)).mono ?_
  rintro e w4 ⟨vw40, rfl, ho0, hb⟩
  have NEw40_w30 := Aside0.mk (ne_new (HS8.out _ (Below.refl _ _)).2.2.2.1 ho0)
  have NEw40_w31 := Aside0.mk (ne_new (HS8.out _ (Below.refl _ _)).2.2.1 ho0)
  replace ho0 := row_tight rfl ho0 (HS8.out _ (Below.refl _ _)).2.2.2.2.2
  obtain ⟨Aw40, cw40, rfl⟩ := Kd.R_slice ho0
  have HS9 := Aside0.mk (hs_row ho0 (hs_step hb HS8.out))
  clear HS8
  clear hb ho0
  clear x3a x3b x3c
  have HS10 := Aside0.mk (hs_box (W := w4) (cs := #[.int .i64 a0_0, .int .i64 a0_1, .slice Aw40 l0_2.length cw40]) (t := 37) w4.heap.size rfl HS9.out)
  clear HS9
  obtain ⟨x4a, x4b, x4c⟩ := blk3 (HS10.out _ (Below.refl _ _)).1
  go_wp2_with fail
  refine (impl_PartDown.calls (k := _) (a0_0 := a0_0) (a0_1 := a0_1) (l0_2 := l0_2) (hr0_2 := (Kd.R_reads' (HS10.out _ (Below.refl _ _)).2.1).2.2) (hc0_2 := (Kd.R_reads' (HS10.out _ (Below.refl _ _)).2.1).2.1) (w := _) (h := G4.out.choose_spec)).mono ?_
  rintro e w5 ⟨vw50, vw51, rfl, ho0, ho1, hb⟩
  have NEw50_w30 := Aside0.mk (ne_new (HS10.out _ (Below.refl _ _)).2.2.2.2.2.1 ho0)
  have NEw50_w31 := Aside0.mk (ne_new (HS10.out _ (Below.refl _ _)).2.2.2.2.1 ho0)
  have NEw50_w40 := Aside0.mk (ne_new (HS10.out _ (Below.refl _ _)).2.1 ho0)
  have NEw51_w30 := Aside0.mk (ne_new (HS10.out _ (Below.refl _ _)).2.2.2.2.2.1 ho1)
  have NEw51_w31 := Aside0.mk (ne_new (HS10.out _ (Below.refl _ _)).2.2.2.2.1 ho1)
  have NEw51_w40 := Aside0.mk (ne_new (HS10.out _ (Below.refl _ _)).2.1 ho1)
  have NEw51_w50 := Aside0.mk (fun k (h1 : vw51.ownBlock = some k) (h2 : vw50.ownBlock = some k) => ho1.1 k h1 h2.symm)
  replace ho0 := row_tight rfl ho0 (HS10.out _ (Below.refl _ _)).2.2.2.2.2.2.2
  replace ho1 := row_tight rfl ho1 (HS10.out _ (Below.refl _ _)).2.2.2.2.2.2.2
  obtain ⟨Aw50, cw50, rfl⟩ := Kd.R_slice ho0
  obtain ⟨Aw51, cw51, rfl⟩ := Kd.R_slice ho1
  have HS11 := Aside0.mk (hs_row ho1 (hs_row ho0 (hs_step hb HS10.out)))
  clear HS10
  clear hb ho0 ho1
  clear x4a x4b x4c
  have HS12 := Aside0.mk (hs_box (W := w5) (cs := #[.int .i64 r1, .int .i64 r2, .slice Aw50 r3.length cw50]) (t := 37) w5.heap.size rfl HS11.out)
  clear HS11
  have HS13 := Aside0.mk (hs_box (W := (w5.alloc (.cells #[.int .i64 r1, .int .i64 r2, .slice Aw50 r3.length cw50] 37))) (cs := #[.int .i64 r4, .int .i64 r5, .slice Aw51 r6.length cw51]) (t := 37) (w5.heap.size + 1) (by simp) HS12.out)
  clear HS12
  obtain ⟨x5a, x5b, x5c⟩ := blk3 (HS13.out _ (Below.refl _ _)).2.1
  obtain ⟨x6a, x6b, x6c⟩ := blk3 (HS13.out _ (Below.refl _ _)).2.2.2.2.2.2.2.1
  go_wp2_with fail
  refine (laws_eqCut.calls (k := _) (a0_0 := r1) (a0_1 := r2) (l0_2 := r3) (a1_0 := r1) (a1_1 := r2) (l1_2 := r3) (hr0_2 := (Kd.R_reads' (HS13.out _ (Below.refl _ _)).2.2.2.1).2.2) (hc0_2 := (Kd.R_reads' (HS13.out _ (Below.refl _ _)).2.2.2.1).2.1) (hr1_2 := (Kd.R_reads' (HS13.out _ (Below.refl _ _)).2.2.2.2.2.2.2.2.2.1).2.2) (hc1_2 := (Kd.R_reads' (HS13.out _ (Below.refl _ _)).2.2.2.2.2.2.2.2.2.1).2.1) (w := _) (h := G5.out.choose_spec)).mono ?_
  rintro e w6 ⟨rfl, hb⟩
  have HS14 := Aside0.mk (hs_step hb HS13.out)
  clear HS13
  clear hb
  clear x5a x5b x5c x6a x6b x6c
  obtain ⟨x7a, x7b, x7c⟩ := blk3 (HS14.out _ (Below.refl _ _)).1
  obtain ⟨x8a, x8b, x8c⟩ := blk3 (HS14.out _ (Below.refl _ _)).2.2.2.2.2.2.1
  go_wp2_with fail
  refine (laws_eqCut.calls (k := _) (a0_0 := r4) (a0_1 := r5) (l0_2 := r6) (a1_0 := r4) (a1_1 := r5) (l1_2 := r6) (hr0_2 := (Kd.R_reads' (HS14.out _ (Below.refl _ _)).2.2.1).2.2) (hc0_2 := (Kd.R_reads' (HS14.out _ (Below.refl _ _)).2.2.1).2.1) (hr1_2 := (Kd.R_reads' (HS14.out _ (Below.refl _ _)).2.2.2.2.2.2.2.2.1).2.2) (hc1_2 := (Kd.R_reads' (HS14.out _ (Below.refl _ _)).2.2.2.2.2.2.2.2.1).2.1) (w := _) (h := G6.out.choose_spec)).mono ?_
  rintro e w7 ⟨rfl, hb⟩
  have HS15 := Aside0.mk (hs_step hb HS14.out)
  clear HS14
  clear hb
  clear x7a x7b x7c x8a x8b x8c
  go_wp2_with fail
  have HS16 := Aside0.mk (hs_drew HS15.out)
  clear HS15
  refine start_ (n := 5) (S := fun w' => w'.cell? ⟨w4.heap.size, 0, none⟩ = some (.int .i64 a0_0) ∧ w'.cell? ⟨w4.heap.size, 1, none⟩ = some (.int .i64 a0_1) ∧ w'.cell? ⟨w4.heap.size, 2, none⟩ = some (.slice Aw40 l0_2.length cw40) ∧ w'.cell? ⟨w.heap.size, 0, none⟩ = some (.int .i64 a0_0) ∧ w'.cell? ⟨w.heap.size, 1, none⟩ = some (.int .i64 a0_1) ∧ w'.cell? ⟨w.heap.size, 2, none⟩ = some (.slice A0_2 l0_2.length c0_2)) (ds := []) #[false, false, false, false, false] (by kernel_rfl) rfl rfl ⟨(blk_cell (HS16.out _ (Below.refl _ _)).2.2.2.2.1 0).trans rfl, (blk_cell (HS16.out _ (Below.refl _ _)).2.2.2.2.1 1).trans rfl, (blk_cell (HS16.out _ (Below.refl _ _)).2.2.2.2.1 2).trans rfl, (blk_cell (HS16.out _ (Below.refl _ _)).2.2.2.2.2.2.2.2.2.2.1 0).trans rfl, (blk_cell (HS16.out _ (Below.refl _ _)).2.2.2.2.2.2.2.2.2.2.1 1).trans rfl, (blk_cell (HS16.out _ (Below.refl _ _)).2.2.2.2.2.2.2.2.2.2.1 2).trans rfl⟩ (fun hHeld => ?_)
  generalize w7.drew = w8 at HS16 hHeld ⊢
  refine take_ (i := 0) (N := some 52) (v := ?_) (a' := ?_) #[true, false, false, false, false] rfl rfl (by kernel_rfl) (fun _ _ _ h => h) (Or.inl ⟨by rfl, ?_⟩) hHeld ?_ ?_
  rotate_left
  · rintro w' ⟨s0, s1, s2, s3, s4, s5⟩
    go_simp
    with_reducible rfl
  rotate_left
  · simp only [Act.put, List.setIfInBounds_toArray, List.set_cons_zero, List.set_cons_succ, i64_w, i32_w]
    rfl
  refine take_ (i := 1) (N := some 53) (v := ?_) (a' := ?_) #[true, true, false, false, false] rfl rfl (by kernel_rfl) (fun _ _ _ h => h) (Or.inl ⟨by rfl, ?_⟩) hHeld ?_ ?_
  rotate_left
  · rintro w' ⟨s0, s1, s2, s3, s4, s5⟩
    go_simp
    with_reducible rfl
  rotate_left
  · simp only [Act.put, List.setIfInBounds_toArray, List.set_cons_zero, List.set_cons_succ, i64_w, i32_w]
    rfl
  refine one_ (i := 2) (N := some 54) #[true, true, true, false, false] rfl rfl (by kernel_rfl) (by decide) (fun K hK => ?_)
  refine goes_ Try.func18 (by kernel_rfl) rfl #[.agg #[.int .i64 a0_0, .int .i64 a0_1, .slice A0_2 l0_2.length c0_2]] (by rfl) rfl rfl (by (try simp only [List.map_toArray, List.map_cons, List.map_nil]); first | done | rfl) ?_
  with_reducible refine (laws_toCut.calls (k := _) (a0_0 := a0_0) (a0_1 := a0_1) (l0_2 := l0_2) (hr0_2 := Kd.C_below HR0.out (HS16.out _ (Below.refl _ _)).2.2.2.2.2.2.2.2.2.2.2) (hc0_2 := HC0.out) (w := _) (h := G2.out.choose_spec)).mono ?_
  rintro e w9 ⟨vw90, rfl, ho0, hb⟩
  have NEw90_w30 := Aside0.mk (ne_new (HS16.out _ (Below.refl _ _)).2.2.2.2.2.2.2.2.2.1 ho0)
  have NEw90_w31 := Aside0.mk (ne_new (HS16.out _ (Below.refl _ _)).2.2.2.2.2.2.2.2.1 ho0)
  have NEw90_w40 := Aside0.mk (ne_new (HS16.out _ (Below.refl _ _)).2.2.2.2.2.1 ho0)
  have NEw90_w50 := Aside0.mk (ne_new (HS16.out _ (Below.refl _ _)).2.2.2.1 ho0)
  have NEw90_w51 := Aside0.mk (ne_new (HS16.out _ (Below.refl _ _)).2.2.1 ho0)
  replace ho0 := row_tight rfl ho0 (HS16.out _ (Below.refl _ _)).2.2.2.2.2.2.2.2.2.2.2
  obtain ⟨Aw90, cw90, rfl⟩ := Kd.R_slice ho0
  have HS17 := Aside0.mk (hs_row ho0 (hs_step hb HS16.out))
  clear HS16
  clear hb ho0
  refine ⟨_, rfl, ?_⟩
  refine hK.out _ _ ⟨(blk_cell (HS17.out _ (Below.refl _ _)).2.2.2.2.2.1 0).trans rfl, (blk_cell (HS17.out _ (Below.refl _ _)).2.2.2.2.2.1 1).trans rfl, (blk_cell (HS17.out _ (Below.refl _ _)).2.2.2.2.2.1 2).trans rfl, (blk_cell (HS17.out _ (Below.refl _ _)).2.2.2.2.2.2.2.2.2.2.2.1 0).trans rfl, (blk_cell (HS17.out _ (Below.refl _ _)).2.2.2.2.2.2.2.2.2.2.2.1 1).trans rfl, (blk_cell (HS17.out _ (Below.refl _ _)).2.2.2.2.2.2.2.2.2.2.2.1 2).trans rfl⟩ (fun hHeld => ?_)
  clear hK K
  refine norm_ (a' := ?_) ?_ ?_
  rotate_left
  · show Act.put _ (some 54) _ = _
    simp only [Act.put, List.setIfInBounds_toArray, List.set_cons_zero, List.set_cons_succ, i64_w, i32_w]
    rfl
  refine one_ (i := 3) (N := some 55) #[true, true, true, true, false] rfl rfl (by kernel_rfl) (by decide) (fun K hK => ?_)
  refine goes_ Try.func20 (by kernel_rfl) rfl #[.agg #[.int .i64 a0_0, .int .i64 a0_1, .slice Aw40 l0_2.length cw40], .agg #[.int .i64 a0_0, .int .i64 a0_1, .slice Aw90 l0_2.length cw90]] (by rfl) rfl rfl (by (try simp only [List.map_toArray, List.map_cons, List.map_nil]); first | done | rfl) ?_
  with_reducible refine (laws_eqCut.calls (k := _) (a0_0 := a0_0) (a0_1 := a0_1) (l0_2 := l0_2) (a1_0 := a0_0) (a1_1 := a0_1) (l1_2 := l0_2) (hr0_2 := (Kd.R_reads' (HS17.out _ (Below.refl _ _)).2.2.2.2.2.2.1).2.2) (hc0_2 := (Kd.R_reads' (HS17.out _ (Below.refl _ _)).2.2.2.2.2.2.1).2.1) (hr1_2 := (Kd.R_reads' (HS17.out _ (Below.refl _ _)).1).2.2) (hc1_2 := (Kd.R_reads' (HS17.out _ (Below.refl _ _)).1).2.1) (w := _) (h := G7.out.choose_spec)).mono ?_
  rintro e w10 ⟨rfl, hb⟩
  have HS18 := Aside0.mk (hs_step hb HS17.out)
  clear HS17
  clear hb
  refine ⟨_, rfl, ?_⟩
  refine hK.out _ _ ⟨(blk_cell (HS18.out _ (Below.refl _ _)).2.2.2.2.2.1 0).trans rfl, (blk_cell (HS18.out _ (Below.refl _ _)).2.2.2.2.2.1 1).trans rfl, (blk_cell (HS18.out _ (Below.refl _ _)).2.2.2.2.2.1 2).trans rfl, (blk_cell (HS18.out _ (Below.refl _ _)).2.2.2.2.2.2.2.2.2.2.2.1 0).trans rfl, (blk_cell (HS18.out _ (Below.refl _ _)).2.2.2.2.2.2.2.2.2.2.2.1 1).trans rfl, (blk_cell (HS18.out _ (Below.refl _ _)).2.2.2.2.2.2.2.2.2.2.2.1 2).trans rfl⟩ (fun hHeld => ?_)
  clear hK K
  refine norm_ (a' := ?_) ?_ ?_
  rotate_left
  · show Act.put _ (some 55) _ = _
    simp only [Act.put, List.setIfInBounds_toArray, List.set_cons_zero, List.set_cons_succ, i64_w, i32_w]
    rfl
  refine pure_ (i := 4) (N := some 56) (v := ?_) (a' := ?_) #[true, true, true, true, true] rfl rfl (by kernel_rfl) (fun _ _ _ h => h) (Or.inl ⟨by rfl, ?_⟩) ?_ ?_
  rotate_left
  · intro w'
    go_simp
    with_reducible rfl
  rotate_left
  · simp only [Act.put, List.setIfInBounds_toArray, List.set_cons_zero, List.set_cons_succ, i64_w, i32_w]
    rfl
  refine done_ (by kernel_rfl) ?_
  clear hHeld
  have HS19 := Aside0.mk (fun V hV => And.intro (HS18.out V hV).2.1 (And.intro (HS18.out V hV).2.2.1 (And.intro (HS18.out V hV).2.2.2.1 (And.intro (HS18.out V hV).2.2.2.2.1 (And.intro (HS18.out V hV).2.2.2.2.2.1 (And.intro (HS18.out V hV).2.2.2.2.2.2.1 (And.intro (HS18.out V hV).2.2.2.2.2.2.2.1 (And.intro (HS18.out V hV).2.2.2.2.2.2.2.2.1 (And.intro (HS18.out V hV).2.2.2.2.2.2.2.2.2.1 (And.intro (HS18.out V hV).2.2.2.2.2.2.2.2.2.2.1 (And.intro (HS18.out V hV).2.2.2.2.2.2.2.2.2.2.2.1 ((HS18.out V hV).2.2.2.2.2.2.2.2.2.2.2.2))))))))))))
  clear HS18
  obtain ⟨x9a, x9b, x9c⟩ := blk3 (HS19.out _ (Below.refl _ _)).2.2.2.2.1
  go_wp2_with fail
  refine (laws_markCut.calls _ a0_0 a0_1 (fun k_ => some k_ = (.slice Aw40 l0_2.length cw40 : Value).ownBlock) (.slice Aw40 l0_2.length cw40) l0_2 1 _ _ w _ (HS19.out _ (Below.refl _ _)).2.2.2.2.2.2.2.2.2.2.2 (HS19.out _ (Below.refl _ _)).2.2.2.2.2.1 G8.out.choose_spec).mono ?_
  rintro e w11 ⟨rfl, ho, hb, hk⟩
  have HLNw11 : Aside0 (l0_2.length = ym1.length) := ⟨(Kd.R_reads' ho).1⟩
  replace ho := Kd.R_tight rfl ho
  have HS20 := Aside0.mk (hs_blk (box_away (HS19.out _ (Below.refl _ _)).1 (HS19.out _ (Below.refl _ _)).2.2.2.2.2.1 (by decide) hk) (hs_blk (box_away (HS19.out _ (Below.refl _ _)).2.1 (HS19.out _ (Below.refl _ _)).2.2.2.2.2.1 (by decide) hk) (hs_row (row_away (HS19.out _ (Below.refl _ _)).2.2.1 hk NEw51_w40.out) (hs_row (row_away (HS19.out _ (Below.refl _ _)).2.2.2.1 hk NEw50_w40.out) (hs_blk (box_away (HS19.out _ (Below.refl _ _)).2.2.2.2.1 (HS19.out _ (Below.refl _ _)).2.2.2.2.2.1 (by decide) hk) (hs_row ho (hs_blk (box_away (HS19.out _ (Below.refl _ _)).2.2.2.2.2.2.1 (HS19.out _ (Below.refl _ _)).2.2.2.2.2.1 (by decide) hk) (hs_blk (box_away (HS19.out _ (Below.refl _ _)).2.2.2.2.2.2.2.1 (HS19.out _ (Below.refl _ _)).2.2.2.2.2.1 (by decide) hk) (hs_row (row_away' (HS19.out _ (Below.refl _ _)).2.2.2.2.2.2.2.2.1 hk NEw40_w31.out) (hs_row (row_away' (HS19.out _ (Below.refl _ _)).2.2.2.2.2.2.2.2.2.1 hk NEw40_w30.out) (hs_blk (box_away (HS19.out _ (Below.refl _ _)).2.2.2.2.2.2.2.2.2.2.1 (HS19.out _ (Below.refl _ _)).2.2.2.2.2.1 (by decide) hk) (hs_start hb))))))))))))
  clear HS19
  clear ho hb hk
  clear x9a x9b x9c
  obtain ⟨x10a, x10b, x10c⟩ := blk3 (HS20.out _ (Below.refl _ _)).2.1
  obtain ⟨x11a, x11b, x11c⟩ := blk3 (HS20.out _ (Below.refl _ _)).2.2.2.2.2.2.2.1
  go_wp2_with fail
  refine (laws_eqCut.calls (k := _) (a0_0 := r1) (a0_1 := r2) (l0_2 := r3) (a1_0 := r1) (a1_1 := r2) (l1_2 := r3) (hr0_2 := (Kd.R_reads' (HS20.out _ (Below.refl _ _)).2.2.2.1).2.2) (hc0_2 := (Kd.R_reads' (HS20.out _ (Below.refl _ _)).2.2.2.1).2.1) (hr1_2 := (Kd.R_reads' (HS20.out _ (Below.refl _ _)).2.2.2.2.2.2.2.2.2.1).2.2) (hc1_2 := (Kd.R_reads' (HS20.out _ (Below.refl _ _)).2.2.2.2.2.2.2.2.2.1).2.1) (w := _) (h := G5.out.choose_spec)).mono ?_
  rintro e w12 ⟨rfl, hb⟩
  have HS21 := Aside0.mk (hs_step hb HS20.out)
  clear HS20
  clear hb
  clear x10a x10b x10c x11a x11b x11c
  obtain ⟨x12a, x12b, x12c⟩ := blk3 (HS21.out _ (Below.refl _ _)).1
  obtain ⟨x13a, x13b, x13c⟩ := blk3 (HS21.out _ (Below.refl _ _)).2.2.2.2.2.2.1
  go_wp2_with fail
  refine (laws_eqCut.calls (k := _) (a0_0 := r4) (a0_1 := r5) (l0_2 := r6) (a1_0 := r4) (a1_1 := r5) (l1_2 := r6) (hr0_2 := (Kd.R_reads' (HS21.out _ (Below.refl _ _)).2.2.1).2.2) (hc0_2 := (Kd.R_reads' (HS21.out _ (Below.refl _ _)).2.2.1).2.1) (hr1_2 := (Kd.R_reads' (HS21.out _ (Below.refl _ _)).2.2.2.2.2.2.2.2.1).2.2) (hc1_2 := (Kd.R_reads' (HS21.out _ (Below.refl _ _)).2.2.2.2.2.2.2.2.1).2.1) (w := _) (h := G6.out.choose_spec)).mono ?_
  rintro e w13 ⟨rfl, hb⟩
  have HS22 := Aside0.mk (hs_step hb HS21.out)
  clear HS21
  clear hb
  clear x12a x12b x12c x13a x13b x13c
  obtain ⟨x14a, x14b, x14c⟩ := blk3 (HS22.out _ (Below.refl _ _)).2.1
  go_wp2_with fail
  refine (laws_markCut.calls _ r1 r2 (fun k_ => some k_ = (.slice Aw50 r3.length cw50 : Value).ownBlock) (.slice Aw50 r3.length cw50) r3 1 _ _ w _ (HS22.out _ (Below.refl _ _)).2.2.2.2.2.2.2.2.2.2.2 (HS22.out _ (Below.refl _ _)).2.2.2.1 G9.out.choose_spec).mono ?_
  rintro e w14 ⟨rfl, ho, hb, hk⟩
  have HLNw14 : Aside0 (r3.length = ym2.length) := ⟨(Kd.R_reads' ho).1⟩
  replace ho := Kd.R_tight rfl ho
  have HS23 := Aside0.mk (hs_blk (box_away (HS22.out _ (Below.refl _ _)).1 (HS22.out _ (Below.refl _ _)).2.2.2.1 (by decide) hk) (hs_blk (box_away (HS22.out _ (Below.refl _ _)).2.1 (HS22.out _ (Below.refl _ _)).2.2.2.1 (by decide) hk) (hs_row (row_away (HS22.out _ (Below.refl _ _)).2.2.1 hk NEw51_w50.out) (hs_row ho (hs_blk (box_away (HS22.out _ (Below.refl _ _)).2.2.2.2.1 (HS22.out _ (Below.refl _ _)).2.2.2.1 (by decide) hk) (hs_row (row_away' (HS22.out _ (Below.refl _ _)).2.2.2.2.2.1 hk NEw50_w40.out) (hs_blk (box_away (HS22.out _ (Below.refl _ _)).2.2.2.2.2.2.1 (HS22.out _ (Below.refl _ _)).2.2.2.1 (by decide) hk) (hs_blk (box_away (HS22.out _ (Below.refl _ _)).2.2.2.2.2.2.2.1 (HS22.out _ (Below.refl _ _)).2.2.2.1 (by decide) hk) (hs_row (row_away' (HS22.out _ (Below.refl _ _)).2.2.2.2.2.2.2.2.1 hk NEw50_w31.out) (hs_row (row_away' (HS22.out _ (Below.refl _ _)).2.2.2.2.2.2.2.2.2.1 hk NEw50_w30.out) (hs_blk (box_away (HS22.out _ (Below.refl _ _)).2.2.2.2.2.2.2.2.2.2.1 (HS22.out _ (Below.refl _ _)).2.2.2.1 (by decide) hk) (hs_start hb))))))))))))
  clear HS22
  clear ho hb hk
  clear x14a x14b x14c
  obtain ⟨x15a, x15b, x15c⟩ := blk3 (HS23.out _ (Below.refl _ _)).1
  go_wp2_with fail
  refine (laws_markCut.calls _ r4 r5 (fun k_ => some k_ = (.slice Aw51 r6.length cw51 : Value).ownBlock) (.slice Aw51 r6.length cw51) r6 m2 _ _ w _ (HS23.out _ (Below.refl _ _)).2.2.2.2.2.2.2.2.2.2.2 (HS23.out _ (Below.refl _ _)).2.2.1 G10.out.choose_spec).mono ?_
  rintro e w15 ⟨rfl, ho, hb, hk⟩
  have HLNw15 : Aside0 (r6.length = ym3.length) := ⟨(Kd.R_reads' ho).1⟩
  replace ho := Kd.R_tight rfl ho
  have HS24 := Aside0.mk (hs_blk (box_away (HS23.out _ (Below.refl _ _)).1 (HS23.out _ (Below.refl _ _)).2.2.1 (by decide) hk) (hs_blk (box_away (HS23.out _ (Below.refl _ _)).2.1 (HS23.out _ (Below.refl _ _)).2.2.1 (by decide) hk) (hs_row ho (hs_row (row_away' (HS23.out _ (Below.refl _ _)).2.2.2.1 hk NEw51_w50.out) (hs_blk (box_away (HS23.out _ (Below.refl _ _)).2.2.2.2.1 (HS23.out _ (Below.refl _ _)).2.2.1 (by decide) hk) (hs_row (row_away' (HS23.out _ (Below.refl _ _)).2.2.2.2.2.1 hk NEw51_w40.out) (hs_blk (box_away (HS23.out _ (Below.refl _ _)).2.2.2.2.2.2.1 (HS23.out _ (Below.refl _ _)).2.2.1 (by decide) hk) (hs_blk (box_away (HS23.out _ (Below.refl _ _)).2.2.2.2.2.2.2.1 (HS23.out _ (Below.refl _ _)).2.2.1 (by decide) hk) (hs_row (row_away' (HS23.out _ (Below.refl _ _)).2.2.2.2.2.2.2.2.1 hk NEw51_w31.out) (hs_row (row_away' (HS23.out _ (Below.refl _ _)).2.2.2.2.2.2.2.2.2.1 hk NEw51_w30.out) (hs_blk (box_away (HS23.out _ (Below.refl _ _)).2.2.2.2.2.2.2.2.2.2.1 (HS23.out _ (Below.refl _ _)).2.2.1 (by decide) hk) (hs_start hb))))))))))))
  clear HS23
  clear ho hb hk
  clear x15a x15b x15c
  obtain ⟨x16a, x16b, x16c⟩ := blk3 (HS24.out _ (Below.refl _ _)).2.1
  go_wp2_with fail
  have hc := laws_heldCut.calls (k := _) (a0_0 := r1) (a0_1 := r2) (l0_2 := ym2) (a1 := 1) (hr0_2 := (Kd.R_reads' (HS24.out _ (Below.refl _ _)).2.2.2.1).2.2) (hc0_2 := (by rw [← HLNw14.out]; exact (Kd.R_reads' (HS24.out _ (Below.refl _ _)).2.2.2.1).2.1)) (w := w15) (h := G11.out.choose_spec)
  rw [← HLNw14.out] at hc
  refine (hc).mono ?_
  rintro e w16 ⟨rfl, hb⟩
  have HS25 := Aside0.mk (hs_step hb HS24.out)
  clear HS24
  clear hb
  clear x16a x16b x16c
  clear hc
  obtain ⟨x17a, x17b, x17c⟩ := blk3 (HS25.out _ (Below.refl _ _)).1
  go_wp2_with fail
  have hc := laws_heldCut.calls (k := _) (a0_0 := r4) (a0_1 := r5) (l0_2 := ym3) (a1 := m2) (hr0_2 := (Kd.R_reads' (HS25.out _ (Below.refl _ _)).2.2.1).2.2) (hc0_2 := (by rw [← HLNw15.out]; exact (Kd.R_reads' (HS25.out _ (Below.refl _ _)).2.2.1).2.1)) (w := w16) (h := G12.out.choose_spec)
  rw [← HLNw15.out] at hc
  refine (hc).mono ?_
  rintro e w17 ⟨rfl, hb⟩
  have HS26 := Aside0.mk (hs_step hb HS25.out)
  clear HS25
  clear hb
  clear x17a x17b x17c
  clear hc
  obtain ⟨x18a, x18b, x18c⟩ := blk3 (HS26.out _ (Below.refl _ _)).2.2.2.2.2.2.2.2.2.2.1
  go_wp2_with fail
  refine (laws_toCut.calls (k := _) (a0_0 := a0_0) (a0_1 := a0_1) (l0_2 := l0_2) (hr0_2 := Kd.C_below HR0.out (HS26.out _ (Below.refl _ _)).2.2.2.2.2.2.2.2.2.2.2) (hc0_2 := HC0.out) (w := _) (h := G2.out.choose_spec)).mono ?_
  rintro e w18 ⟨vw180, rfl, ho0, hb⟩
  have NEw180_w30 := Aside0.mk (ne_new (HS26.out _ (Below.refl _ _)).2.2.2.2.2.2.2.2.2.1 ho0)
  have NEw180_w31 := Aside0.mk (ne_new (HS26.out _ (Below.refl _ _)).2.2.2.2.2.2.2.2.1 ho0)
  have NEw180_w40 := Aside0.mk (ne_new (HS26.out _ (Below.refl _ _)).2.2.2.2.2.1 ho0)
  have NEw180_w50 := Aside0.mk (ne_new (HS26.out _ (Below.refl _ _)).2.2.2.1 ho0)
  have NEw180_w51 := Aside0.mk (ne_new (HS26.out _ (Below.refl _ _)).2.2.1 ho0)
  replace ho0 := row_tight rfl ho0 (HS26.out _ (Below.refl _ _)).2.2.2.2.2.2.2.2.2.2.2
  obtain ⟨Aw180, cw180, rfl⟩ := Kd.R_slice ho0
  have HS27 := Aside0.mk (hs_row ho0 (hs_step hb HS26.out))
  clear HS26
  clear hb ho0
  clear x18a x18b x18c
  go_wp2_with fail
  refine (impl_PartDown.calls (k := _) (a0_0 := a0_0) (a0_1 := a0_1) (l0_2 := l0_2) (hr0_2 := (Kd.R_reads' (HS27.out _ (Below.refl _ _)).1).2.2) (hc0_2 := (Kd.R_reads' (HS27.out _ (Below.refl _ _)).1).2.1) (w := _) (h := G4.out.choose_spec)).mono ?_
  rintro e w19 ⟨vw190, vw191, rfl, ho0, ho1, hb⟩
  have NEw190_w30 := Aside0.mk (ne_new (HS27.out _ (Below.refl _ _)).2.2.2.2.2.2.2.2.2.2.1 ho0)
  have NEw190_w31 := Aside0.mk (ne_new (HS27.out _ (Below.refl _ _)).2.2.2.2.2.2.2.2.2.1 ho0)
  have NEw190_w40 := Aside0.mk (ne_new (HS27.out _ (Below.refl _ _)).2.2.2.2.2.2.1 ho0)
  have NEw190_w50 := Aside0.mk (ne_new (HS27.out _ (Below.refl _ _)).2.2.2.2.1 ho0)
  have NEw190_w51 := Aside0.mk (ne_new (HS27.out _ (Below.refl _ _)).2.2.2.1 ho0)
  have NEw190_w180 := Aside0.mk (ne_new (HS27.out _ (Below.refl _ _)).1 ho0)
  have NEw191_w30 := Aside0.mk (ne_new (HS27.out _ (Below.refl _ _)).2.2.2.2.2.2.2.2.2.2.1 ho1)
  have NEw191_w31 := Aside0.mk (ne_new (HS27.out _ (Below.refl _ _)).2.2.2.2.2.2.2.2.2.1 ho1)
  have NEw191_w40 := Aside0.mk (ne_new (HS27.out _ (Below.refl _ _)).2.2.2.2.2.2.1 ho1)
  have NEw191_w50 := Aside0.mk (ne_new (HS27.out _ (Below.refl _ _)).2.2.2.2.1 ho1)
  have NEw191_w51 := Aside0.mk (ne_new (HS27.out _ (Below.refl _ _)).2.2.2.1 ho1)
  have NEw191_w180 := Aside0.mk (ne_new (HS27.out _ (Below.refl _ _)).1 ho1)
  have NEw191_w190 := Aside0.mk (fun k (h1 : vw191.ownBlock = some k) (h2 : vw190.ownBlock = some k) => ho1.1 k h1 h2.symm)
  replace ho0 := row_tight rfl ho0 (HS27.out _ (Below.refl _ _)).2.2.2.2.2.2.2.2.2.2.2.2
  replace ho1 := row_tight rfl ho1 (HS27.out _ (Below.refl _ _)).2.2.2.2.2.2.2.2.2.2.2.2
  obtain ⟨Aw190, cw190, rfl⟩ := Kd.R_slice ho0
  obtain ⟨Aw191, cw191, rfl⟩ := Kd.R_slice ho1
  have HS28 := Aside0.mk (hs_row ho1 (hs_row ho0 (hs_step hb HS27.out)))
  clear HS27
  clear hb ho0 ho1
  have HS29 := Aside0.mk (hs_box (W := w19) (cs := #[.int .i64 r1, .int .i64 r2, .slice Aw190 r3.length cw190]) (t := 37) w19.heap.size rfl HS28.out)
  clear HS28
  have HS30 := Aside0.mk (hs_box (W := (w19.alloc (.cells #[.int .i64 r1, .int .i64 r2, .slice Aw190 r3.length cw190] 37))) (cs := #[.int .i64 r4, .int .i64 r5, .slice Aw191 r6.length cw191]) (t := 37) (w19.heap.size + 1) (by simp) HS29.out)
  clear HS29
  have HS31 := Aside0.mk (fun V hV => And.intro (HS30.out V hV).1 (And.intro (HS30.out V hV).2.1 (And.intro (HS30.out V hV).2.2.1 (And.intro (HS30.out V hV).2.2.2.1 (And.intro (HS30.out V hV).2.2.2.2.2.1 (And.intro (HS30.out V hV).2.2.2.2.2.2.1 (And.intro (HS30.out V hV).2.2.2.2.2.2.2.1 (And.intro (HS30.out V hV).2.2.2.2.2.2.2.2.1 (And.intro (HS30.out V hV).2.2.2.2.2.2.2.2.2.1 (And.intro (HS30.out V hV).2.2.2.2.2.2.2.2.2.2.1 (And.intro (HS30.out V hV).2.2.2.2.2.2.2.2.2.2.2.1 (And.intro (HS30.out V hV).2.2.2.2.2.2.2.2.2.2.2.2.1 (And.intro (HS30.out V hV).2.2.2.2.2.2.2.2.2.2.2.2.2.1 (And.intro (HS30.out V hV).2.2.2.2.2.2.2.2.2.2.2.2.2.2.1 (And.intro (HS30.out V hV).2.2.2.2.2.2.2.2.2.2.2.2.2.2.2.1 ((HS30.out V hV).2.2.2.2.2.2.2.2.2.2.2.2.2.2.2.2))))))))))))))))
  clear HS30
  obtain ⟨x19a, x19b, x19c⟩ := blk3 (HS31.out _ (Below.refl _ _)).2.1
  obtain ⟨x20a, x20b, x20c⟩ := blk3 (HS31.out _ (Below.refl _ _)).2.2.2.2.2.2.2.2.2.2.2.1
  go_wp2_with fail
  refine (laws_eqCut.calls (k := _) (a0_0 := r1) (a0_1 := r2) (l0_2 := r3) (a1_0 := r1) (a1_1 := r2) (l1_2 := r3) (hr0_2 := (Kd.R_reads' (HS31.out _ (Below.refl _ _)).2.2.2.1).2.2) (hc0_2 := (Kd.R_reads' (HS31.out _ (Below.refl _ _)).2.2.2.1).2.1) (hr1_2 := (Kd.R_reads' (HS31.out _ (Below.refl _ _)).2.2.2.2.2.2.2.2.2.2.2.2.2.1).2.2) (hc1_2 := (Kd.R_reads' (HS31.out _ (Below.refl _ _)).2.2.2.2.2.2.2.2.2.2.2.2.2.1).2.1) (w := _) (h := G5.out.choose_spec)).mono ?_
  rintro e w20 ⟨rfl, hb⟩
  have HS32 := Aside0.mk (hs_step hb HS31.out)
  clear HS31
  clear hb
  clear x19a x19b x19c x20a x20b x20c
  obtain ⟨x21a, x21b, x21c⟩ := blk3 (HS32.out _ (Below.refl _ _)).1
  obtain ⟨x22a, x22b, x22c⟩ := blk3 (HS32.out _ (Below.refl _ _)).2.2.2.2.2.2.2.2.2.2.1
  go_wp2_with fail
  refine (laws_eqCut.calls (k := _) (a0_0 := r4) (a0_1 := r5) (l0_2 := r6) (a1_0 := r4) (a1_1 := r5) (l1_2 := r6) (hr0_2 := (Kd.R_reads' (HS32.out _ (Below.refl _ _)).2.2.1).2.2) (hc0_2 := (Kd.R_reads' (HS32.out _ (Below.refl _ _)).2.2.1).2.1) (hr1_2 := (Kd.R_reads' (HS32.out _ (Below.refl _ _)).2.2.2.2.2.2.2.2.2.2.2.2.1).2.2) (hc1_2 := (Kd.R_reads' (HS32.out _ (Below.refl _ _)).2.2.2.2.2.2.2.2.2.2.2.2.1).2.1) (w := _) (h := G6.out.choose_spec)).mono ?_
  rintro e w21 ⟨rfl, hb⟩
  have HS33 := Aside0.mk (hs_step hb HS32.out)
  clear HS32
  clear hb
  clear x21a x21b x21c x22a x22b x22c
  obtain ⟨x23a, x23b, x23c⟩ := blk3 (HS33.out _ (Below.refl _ _)).2.2.2.2.2.1
  go_wp2_with fail
  have hc := laws_heldCut.calls (k := _) (a0_0 := r1) (a0_1 := r2) (l0_2 := ym2) (a1 := 1) (hr0_2 := (Kd.R_reads' (HS33.out _ (Below.refl _ _)).2.2.2.2.2.2.2.1).2.2) (hc0_2 := (by rw [← HLNw14.out]; exact (Kd.R_reads' (HS33.out _ (Below.refl _ _)).2.2.2.2.2.2.2.1).2.1)) (w := w21) (h := G11.out.choose_spec)
  rw [← HLNw14.out] at hc
  refine (hc).mono ?_
  rintro e w22 ⟨rfl, hb⟩
  have HS34 := Aside0.mk (hs_step hb HS33.out)
  clear HS33
  clear hb
  clear x23a x23b x23c
  clear hc
  obtain ⟨x24a, x24b, x24c⟩ := blk3 (HS34.out _ (Below.refl _ _)).2.2.2.2.1
  go_wp2_with fail
  have hc := laws_heldCut.calls (k := _) (a0_0 := r4) (a0_1 := r5) (l0_2 := ym3) (a1 := m2) (hr0_2 := (Kd.R_reads' (HS34.out _ (Below.refl _ _)).2.2.2.2.2.2.1).2.2) (hc0_2 := (by rw [← HLNw15.out]; exact (Kd.R_reads' (HS34.out _ (Below.refl _ _)).2.2.2.2.2.2.1).2.1)) (w := w22) (h := G12.out.choose_spec)
  rw [← HLNw15.out] at hc
  refine (hc).mono ?_
  rintro e w23 ⟨rfl, hb⟩
  have HS35 := Aside0.mk (hs_step hb HS34.out)
  clear HS34
  clear hb
  clear x24a x24b x24c
  clear hc
  go_wp2_with fail
  go_ret
  exact ⟨rfl, (HS35.out _ (Below.refl _ _)).2.2.2.2.2.2.2.2.2.2.2.2.2.2.2⟩
end Go.Proofs.Ytdfcljfajiihdaa.P

namespace Go.Proofs.Ytdfcljfajiihdaa.P
end Go.Proofs.Ytdfcljfajiihdaa.P

namespace Go.Proofs.Ytdfcljfajiihdaa.P
open Go.RowKit Go.Proofs.YtdfcljfajiihdaaW.PrintWords Go.Proofs.YtdfcljfajiihdaaW.PrintLast Go.Proofs.Ytdfcljfajiihdaa.Wm
attribute [local go_sem] max2_int min2_int max_two min_two
set_option linter.unusedVariables false
set_option linter.unusedSimpArgs false
end Go.Proofs.Ytdfcljfajiihdaa.P

namespace Go.Proofs.Ytdfcljfajiihdaa.P
open Go.RowKit Go.Proofs.YtdfcljfajiihdaaW.PrintWords Go.Proofs.YtdfcljfajiihdaaW.PrintLast Go.Proofs.Ytdfcljfajiihdaa.Wm
attribute [local go_sem] max2_int min2_int max_two min_two
set_option linter.unusedVariables false
set_option linter.unusedSimpArgs false
end Go.Proofs.Ytdfcljfajiihdaa.P

namespace Go.Proofs.Ytdfcljfajiihdaa.P
open Go.RowKit Go.Proofs.YtdfcljfajiihdaaW.PrintWords Go.Proofs.YtdfcljfajiihdaaW.PrintLast Go.Proofs.Ytdfcljfajiihdaa.Wm
attribute [local go_sem] max2_int min2_int max_two min_two
set_option linter.unusedVariables false
set_option linter.unusedSimpArgs false
end Go.Proofs.Ytdfcljfajiihdaa.P

namespace Go.Proofs.Ytdfcljfajiihdaa.P
open Go.RowKit Go.Proofs.YtdfcljfajiihdaaW.PrintWords Go.Proofs.YtdfcljfajiihdaaW.PrintLast Go.Proofs.Ytdfcljfajiihdaa.Wm
attribute [local go_sem] max2_int min2_int max_two min_two
set_option linter.unusedVariables false
set_option linter.unusedSimpArgs false
end Go.Proofs.Ytdfcljfajiihdaa.P

namespace Go.Proofs.Ytdfcljfajiihdaa.Pure
set_option linter.unusedVariables false
set_option linter.unusedSimpArgs false
open Go.RowKit Go.Proofs.Ytdfcljfajiihdaa.P Go.Proofs.YtdfcljfajiihdaaW.PrintWords Go.Proofs.YtdfcljfajiihdaaW.PrintLast Go.Proofs.Ytdfcljfajiihdaa.Aid
theorem l1In_f (n lo hi : Int) : spec_l1In.f n lo hi = some (inR n lo hi) := by
  unfold spec_l1In.f inR; by_cases c : lo ≤ n <;> simp [c]
end Go.Proofs.Ytdfcljfajiihdaa.Pure

namespace Go.Proofs.Ytdfcljfajiihdaa.T
def Sq.has (q : Sq) (a b : Int) : Prop := q.f0 ≤ a ∧ a < q.f0 + q.f2 ∧ q.f1 ≤ b ∧ b < q.f1 + q.f2
instance (q : Sq) (a b : Int) : Decidable (q.has a b) := by unfold Sq.has; infer_instance
def area : List Sq → Int
  | [] => 0
  | q :: T => q.f2 * q.f2 + area T
theorem area_append (A B : List Sq) : area (A ++ B) = area A + area B := by
  induction A with
  | nil => simp [area]
  | cons q A ih => simp only [List.cons_append, area, ih]; omega
def inBox (w h : Int) (q : Sq) : Prop := 1 ≤ q.f2 ∧ 0 ≤ q.f0 ∧ q.f0 + q.f2 ≤ w ∧ 0 ≤ q.f1 ∧ q.f1 + q.f2 ≤ h
def Apart (p q : Sq) : Prop := ¬ (p.f0 < q.f0 + q.f2 ∧ q.f0 < p.f0 + p.f2 ∧ p.f1 < q.f1 + q.f2 ∧ q.f1 < p.f1 + p.f2)
theorem Apart.symm {p q : Sq} (h : Apart p q) : Apart q p := by unfold Apart at *; omega
end Go.Proofs.Ytdfcljfajiihdaa.T

namespace Go.Proofs.Ytdfcljfajiihdaa.T
def ht (f : List Int) (c : Nat) : Int := f.getD c 0
def run (f : List Int) (y : Int) : Nat := match f with | [] => 0 | z :: f => if z = y then run f y + 1 else 0
def Lt (p q : Sq) : Prop := p.f1 < q.f1 ∨ p.f1 = q.f1 ∧ p.f0 < q.f0
end Go.Proofs.Ytdfcljfajiihdaa.T

namespace Go.Proofs.Ytdfcljfajiihdaa.T
def nq (l : List Sq) (i : Nat) : Sq := l.getD i ⟨0, 0, 0⟩
theorem nq_get (l : List Sq) (i : Nat) (h : i < l.length) : nq l i = l[i] := by simp [nq, h]
theorem nq_mem (l : List Sq) (i : Nat) (h : i < l.length) : nq l i ∈ l := by rw [nq_get l i h]; exact List.getElem_mem h
theorem nq_take (l : List Sq) (n i : Nat) (h : i < n) : nq (l.take n) i = nq l i := by
  unfold nq
  rw [List.getD_eq_getElem?_getD, List.getD_eq_getElem?_getD, List.getElem?_take_of_lt h]
structure Good (W H : Int) (l : List Sq) : Prop where
  w : 1 ≤ W ∧ W ≤ 500
  h : 1 ≤ H ∧ H ≤ 500
  len : l.length ≤ 30
  box : ∀ q ∈ l, inBox W H q
  apart : l.Pairwise Apart
  lt : l.Pairwise Lt
  area : area l = W * H
def OkS (W H : Int) (l : List Sq) (i : Nat) : Prop := inBox W H (nq l i) ∧ ∀ j, j < i → Apart (nq l i) (nq l j) ∧ (j + 1 = i → Lt (nq l j) (nq l i))
theorem Lt.trans {a b c : Sq} (h : Lt a b) (k : Lt b c) : Lt a c := by unfold Lt at *; omega
theorem lt_chain (l : List Sq) (n : Nat) (h : ∀ i, i + 1 < n → Lt (nq l i) (nq l (i + 1))) : ∀ d i, i + d + 1 < n → Lt (nq l i) (nq l (i + d + 1))
  | 0, i, hi => h i hi
  | d + 1, i, hi => (lt_chain l n h d i (by omega)).trans (h (i + d + 1) (by omega))
theorem good_iff (W H : Int) (l : List Sq) : Good W H l ↔ (1 ≤ W ∧ W ≤ 500) ∧ (1 ≤ H ∧ H ≤ 500) ∧ l.length ≤ 30 ∧ (∀ i, i < l.length → OkS W H l i) ∧ area l = W * H := by
  constructor
  · rintro ⟨hw, hh, hl, hb, ha, ht, har⟩
    rw [List.pairwise_iff_getElem] at ha ht
    refine ⟨hw, hh, hl, fun i hi => ⟨hb _ (nq_mem l i hi), fun j hj => ?_⟩, har⟩
    have h1 := ha j i (by omega) hi hj
    have h2 := ht j i (by omega) hi hj
    rw [← nq_get, ← nq_get] at h1 h2
    exact ⟨h1.symm, fun _ => h2⟩
  · rintro ⟨hw, hh, hl, hs, har⟩
    refine ⟨hw, hh, hl, fun q hq => ?_, ?_, ?_, har⟩
    · obtain ⟨i, hi, rfl⟩ := List.getElem_of_mem hq
      rw [← nq_get]
      exact (hs i hi).1
    · rw [List.pairwise_iff_getElem]
      intro i j hi hj hij
      rw [← nq_get l i hi, ← nq_get l j hj]
      exact (((hs j hj).2 i hij).1).symm
    · rw [List.pairwise_iff_getElem]
      intro i j hi hj hij
      rw [← nq_get l i hi, ← nq_get l j hj]
      have := lt_chain l l.length (fun i hi => ((hs (i + 1) hi).2 i (by omega)).2 rfl) (j - i - 1) i (by omega)
      rwa [show i + (j - i - 1) + 1 = j by omega] at this
open Classical in
noncomputable def goodB (W H : Int) (l : List Sq) : Bool := decide (Good W H l)
theorem goodB_iff {W H : Int} {l : List Sq} : goodB W H l = true ↔ Good W H l := by unfold goodB; simp
theorem Good.pos {W H : Int} {l : List Sq} (g : Good W H l) : 1 ≤ l.length := by
  rcases Nat.eq_zero_or_pos l.length with h | h
  · have : l = [] := List.eq_nil_of_length_eq_zero h
    have ha := g.area
    have := g.w; have := g.h
    have : 1 ≤ W * H := by
      have : (1 : Int) * 1 ≤ W * H := Int.mul_le_mul (by omega) (by omega) (by omega) (by omega)
      omega
    subst l
    simp [T.area] at ha
    omega
  · exact h
theorem area_take (l : List Sq) (i : Nat) (h : i < l.length) : area (l.take (i + 1)) = area (l.take i) + (nq l i).f2 * (nq l i).f2 := by
  rw [List.take_succ_eq_append_getElem h, area_append, nq_get l i h]
  simp [area]
theorem sq_le {a m : Int} (h0 : 0 ≤ a) (h1 : a ≤ m) : 0 ≤ a * a ∧ a * a ≤ m * m := ⟨Int.mul_nonneg h0 h0, Int.mul_le_mul h1 h1 h0 (by omega)⟩
theorem area_bd (l : List Sq) (m : Int) : ∀ n : Nat, n ≤ l.length → (∀ i, i < n → 0 ≤ (nq l i).f2 ∧ (nq l i).f2 ≤ m) → 0 ≤ area (l.take n) ∧ area (l.take n) ≤ n * (m * m)
  | 0, _, _ => by simp [area]
  | n + 1, hn, hb => by
    have ih := area_bd l m n (by omega) (fun i hi => hb i (by omega))
    have hq := hb n (by omega)
    have hs := sq_le hq.1 hq.2
    rw [area_take l n (by omega), show ((n + 1 : Nat) : Int) * (m * m) = n * (m * m) + m * m by rw [Int.natCast_succ, Int.add_mul, Int.one_mul]]
    omega
end Go.Proofs.Ytdfcljfajiihdaa.T

namespace Go.Proofs.Ytdfcljfajiihdaa.Pure
set_option linter.unusedVariables false
set_option linter.unusedSimpArgs false
open Go.RowKit Go.Proofs.Ytdfcljfajiihdaa.P Go.Proofs.YtdfcljfajiihdaaW.PrintWords Go.Proofs.YtdfcljfajiihdaaW.PrintLast Go.Proofs.Ytdfcljfajiihdaa.Wm Go.Proofs.Ytdfcljfajiihdaa.Aid Go.Proofs.Ytdfcljfajiihdaa.T
theorem rdq (l : List Sq) (i : Nat) : rd_T56 l (i : Int) = nq l i := by unfold rd_T56 nq; rw [Int.toNat_natCast]; rfl
end Go.Proofs.Ytdfcljfajiihdaa.Pure

namespace Go.Proofs.Ytdfcljfajiihdaa.Pure
set_option linter.unusedVariables false
set_option linter.unusedSimpArgs false
open Go.RowKit Go.Proofs.Ytdfcljfajiihdaa.P Go.Proofs.YtdfcljfajiihdaaW.PrintWords Go.Proofs.YtdfcljfajiihdaaW.PrintLast Go.Proofs.Ytdfcljfajiihdaa.Wm Go.Proofs.Ytdfcljfajiihdaa.Aid Go.Proofs.Ytdfcljfajiihdaa.T
theorem apart_ovl (a b : Sq) (ha : inBox 500 500 a) (hb : inBox 500 500 b) : ovl a b = false ↔ Apart a b := by
  unfold inBox at ha hb
  unfold ovl Apart
  rw [w64 (by omega) (by omega), w64 (by omega) (by omega), w64 (by omega) (by omega), w64 (by omega) (by omega), Bool.eq_false_iff]
  simp only [ne_eq, Bool.and_eq_true, decide_eq_true_eq]
  constructor <;> intro h h' <;> exact h (by omega)
theorem inBox_mono {W H W' H' : Int} {q : Sq} (h : inBox W H q) (hw : W ≤ W') (hh : H ≤ H') : inBox W' H' q := by unfold inBox at *; omega
theorem lt_cmpP (a b : Sq) (ha : inBox 500 500 a) (hb : inBox 500 500 b) : cmpP a b < 0 ↔ Lt a b := by
  unfold inBox at ha hb
  unfold cmpP Lt
  split
  · rw [w64 (by omega) (by omega)]; omega
  · rw [w64 (by omega) (by omega)]; omega
theorem okAt_iff (W H : Int) (l : List Sq) (hW : 1 ≤ W ∧ W ≤ 500) (hH : 1 ≤ H ∧ H ≤ 500) (i : Nat) (hi : i < l.length) (hold : ∀ j, j < i → inBox W H (nq l j)) : okAt W H l i = true ↔ OkS W H l i := by
  unfold okAt OkS
  simp only [rdq, Bool.and_eq_true, Bool.not_eq_true']
  have hbox : (ok1 W H (nq l i) = true ∧ ok2 W (nq l i) = true ∧ ok3 H (nq l i) = true) ↔ inBox W H (nq l i) := by
    unfold ok1 ok2 ok3 inBox
    simp only [Bool.and_eq_true, decide_eq_true_eq, mn_min]
    constructor
    · rintro ⟨⟨h1, h2⟩, ⟨h3, h4⟩, h5, h6⟩
      rw [w64 (by omega) (by omega)] at h4 h6
      omega
    · intro h
      rw [w64 (by omega) (by omega), w64 (by omega) (by omega)]
      omega
  have big : ∀ {q : Sq}, inBox W H q → inBox 500 500 q := fun h => inBox_mono h hW.2 hH.2
  constructor
  · rintro ⟨⟨⟨⟨h1, h2⟩, h3⟩, h4⟩, h5⟩
    have hb := hbox.1 ⟨h1, h2, h3⟩
    refine ⟨hb, fun j hj => ⟨?_, fun e => ?_⟩⟩
    · rw [List.any_eq_false] at h5
      have := h5 (nq l j) (by rw [← nq_take l i j hj]; exact nq_mem _ _ (by simp; omega))
      exact (apart_ovl _ _ (big hb) (big (hold j hj))).1 (Bool.eq_false_iff.2 this)
    · unfold ok4 at h4
      subst e
      rw [Bool.or_eq_true, decide_eq_true_eq, decide_eq_true_eq] at h4
      rcases h4 with h4 | h4
      · cases h4
      · rw [show j + 1 - 1 = j by omega, rdq] at h4
        exact (lt_cmpP _ _ (big (hold j hj)) (big hb)).1 h4
  · rintro ⟨hb, hs⟩
    obtain ⟨h1, h2, h3⟩ := hbox.2 hb
    refine ⟨⟨⟨⟨h1, h2⟩, h3⟩, ?_⟩, ?_⟩
    · unfold ok4
      rw [Bool.or_eq_true, decide_eq_true_eq, decide_eq_true_eq]
      rcases Nat.eq_zero_or_pos i with h0 | h0
      · exact .inl h0
      · refine .inr ?_
        rw [rdq]
        exact (lt_cmpP _ _ (big (hold _ (by omega))) (big hb)).2 ((hs (i - 1) (by omega)).2 (by omega))
    · rw [List.any_eq_false]
      intro q hq
      obtain ⟨j, hj, rfl⟩ := List.getElem_of_mem hq
      rw [List.length_take] at hj
      rw [← nq_get, nq_take l i j (by omega)]
      rw [Bool.not_eq_true]
      exact (apart_ovl _ _ (big hb) (big (hold j (by omega)))).2 (hs j (by omega)).1
theorem okAt_all (W H : Int) (l : List Sq) (hW : 1 ≤ W ∧ W ≤ 500) (hH : 1 ≤ H ∧ H ≤ 500) : (∀ i, i < l.length → okAt W H l i = true) ↔ ∀ i, i < l.length → OkS W H l i := by
  constructor
  · intro h i
    induction i using Nat.strongRecOn with
    | _ i ih => exact fun hi => (okAt_iff W H l hW hH i hi (fun j hj => (ih j hj (by omega)).1)).1 (h i hi)
  · intro h i hi
    exact (okAt_iff W H l hW hH i hi (fun j hj => (h j (by omega)).1)).2 (h i hi)
theorem areaW_area (l : List Sq) : ∀ n, n ≤ l.length → l.length ≤ 30 → (∀ i, i < n → 0 ≤ (nq l i).f2 ∧ (nq l i).f2 ≤ 500) → areaW (l.take n) 0 = area (l.take n)
  | 0, _, _, _ => by simp [areaW, area]
  | n + 1, hn, hl, hb => by
    have ih := areaW_area l n (by omega) hl (fun i hi => hb i (by omega))
    have hq := sq_le (hb n (by omega)).1 (hb n (by omega)).2
    have ha := area_bd l 500 n (by omega) (fun i hi => hb i (by omega))
    rw [area_take l n (by omega), List.take_succ_eq_append_getElem (by omega), areaW_snoc, ih, ← nq_get l n (by omega), w64 (e := (nq l n).f2 * (nq l n).f2) (by omega) (by omega), w64 (by omega) (by omega)]
theorem isCutB_good (W H : Int) (l : List Sq) : isCutB W H l = goodB W H l := by
  rw [Bool.eq_iff_iff, goodB_iff, good_iff]
  unfold isCutB
  simp only [Bool.and_eq_true, decide_eq_true_eq, List.all_eq_true, List.mem_range, and_assoc]
  constructor
  · rintro ⟨h1, h2, h3, h4, h5, h6, h7⟩
    have hs := (okAt_all W H l ⟨h1, h2⟩ ⟨h3, h4⟩).1 h6
    refine ⟨h1, h2, h3, h4, h5, hs, ?_⟩
    have hb : ∀ i, i < l.length → 0 ≤ (nq l i).f2 ∧ (nq l i).f2 ≤ 500 := fun i hi => by have := (hs i hi).1; unfold inBox at this; omega
    have ha := areaW_area l l.length (Nat.le_refl _) h5 hb
    rw [List.take_length] at ha
    have hp : 0 ≤ W * H ∧ W * H ≤ 500 * 500 := ⟨Int.mul_nonneg (by omega) (by omega), Int.mul_le_mul h2 h4 (by omega) (by omega)⟩
    rw [ha, w64 (by omega) (by omega)] at h7
    exact h7
  · rintro ⟨h1, h2, h3, h4, h5, hs, h7⟩
    refine ⟨h1, h2, h3, h4, h5, (okAt_all W H l ⟨h1, h2⟩ ⟨h3, h4⟩).2 hs, ?_⟩
    have hb : ∀ i, i < l.length → 0 ≤ (nq l i).f2 ∧ (nq l i).f2 ≤ 500 := fun i hi => by have := (hs i hi).1; unfold inBox at this; omega
    have ha := areaW_area l l.length (Nat.le_refl _) h5 hb
    rw [List.take_length] at ha
    have hp : 0 ≤ W * H ∧ W * H ≤ 500 * 500 := ⟨Int.mul_nonneg (by omega) (by omega), Int.mul_le_mul h2 h4 (by omega) (by omega)⟩
    rw [ha, w64 (by omega) (by omega)]
    exact h7
theorem isCut_f (W H : Int) (l : List Sq) : impl_IsCut.f W H l = some (goodB W H l) := by unfold impl_IsCut.f; rw [isCutB_good]
def PairOk (l : List Sq) (i j : Nat) : Prop := Apart (nq l i) (nq l j) ∧ (j + 1 = i → Lt (nq l j) (nq l i))
theorem cuLess_f (a b : Sq) : spec_cuLess.f a.f0 a.f1 a.f2 b.f0 b.f1 b.f2 = some (decide (a.f1 < b.f1) || (decide (a.f1 = b.f1) && decide (a.f0 < b.f0))) := by
  unfold spec_cuLess.f
  by_cases c1 : a.f1 < b.f1
  · simp [c1]
  · by_cases c2 : a.f1 = b.f1 <;> simp [c1, c2]
theorem lt_less (a b : Sq) : (decide (a.f1 < b.f1) || (decide (a.f1 = b.f1) && decide (a.f0 < b.f0))) = true ↔ Lt a b := by
  unfold Lt; simp
section
variable (W H : Int) (l : List Sq)
theorem good_l1_step (a : Int) (i m : Nat) (hm : m < i) (hi : i < l.length) {r : Bool}
    (h : Ev (fun k => spec_cuGood.j4 k a i m l l.length i (l.take i) i m (ovl (nq l i) (nq l m)) W H l (nq l i).f0 (nq l i).f1 (nq l i).f2 (nq l m).f0 (nq l m).f1 (nq l m).f2) r) :
    Ev (fun k => spec_cuGood.l1 k a i l l.length i (l.take i) i m W H l (nq l i).f0 (nq l i).f1 (nq l i).f2) r := by
  have e : rd_T56 (l.take i) (m : Int) = nq l m := by rw [rdq, nq_take l i m hm]
  refine Ev.step (fun _ => spec_cuGood.l1.eq_2 ..) (ev_pos (by omega) (ev_pos (by omega) (ev_pos (by simp; omega) ?_)))
  simp only [e]
  unfold ovl at h
  by_cases c1 : (nq l i).f0 < wrap64 ((nq l m).f0 + (nq l m).f2)
  · refine ev_pos c1 ?_
    by_cases c2 : (nq l m).f0 < wrap64 ((nq l i).f0 + (nq l i).f2)
    · refine ev_pos c2 ?_
      by_cases c3 : (nq l i).f1 < wrap64 ((nq l m).f1 + (nq l m).f2)
      · refine ev_pos c3 ?_
        simpa [c1, c2, c3] using h
      · refine ev_neg c3 ?_
        simpa [c1, c2, c3] using h
    · refine ev_neg c2 ?_
      simpa [c1, c2] using h
  · refine ev_neg c1 ?_
    simpa [c1] using h
theorem good_pass (hl : l.length ≤ 30) (a : Int) (i : Nat) (hi : i < l.length) (hb : ∀ j, j ≤ i → inBox 500 500 (nq l j)) {r : Bool} (h : Ev (fun k => spec_cuGood.l0 k a l l.length (i + 1 : Nat) W H l) r) :
    ∀ (d m : Nat), m + d = i → (∀ j, m ≤ j → j < i → PairOk l i j) → Ev (fun k => spec_cuGood.l1 k a i l l.length i (l.take i) i m W H l (nq l i).f0 (nq l i).f1 (nq l i).f2) r
  | 0, m, hd, hp => by
    refine Ev.step (fun _ => spec_cuGood.l1.eq_2 ..) (ev_neg (by omega) ?_)
    rw [w64 (by omega) (by omega)]
    exact h
  | d + 1, m, hd, hp => by
    have ih := good_pass hl a i hi hb h d (m + 1) (by omega) (fun j h1 h2 => hp j (by omega) h2)
    obtain ⟨p1, p2⟩ := hp m (Nat.le_refl _) (by omega)
    refine good_l1_step W H l a i m (by omega) hi ?_
    rw [(apart_ovl _ _ (hb i (Nat.le_refl _)) (hb m (by omega))).2 p1]
    refine Ev.step (fun _ => spec_cuGood.j4.eq_2 ..) (ev_neg (by simp) ?_)
    rw [w64 (by omega) (by omega), w64 (by omega) (by omega)]
    by_cases c : m + 1 = i
    · refine ev_pos (by omega) (ev_call (cuLess_f (nq l m) (nq l i)) (ev_pos ((lt_less _ _).2 (p2 c)) ?_))
      exact ih
    · exact ev_neg (by omega) ih
theorem good_fail (hl : l.length ≤ 30) (a : Int) (i : Nat) (hi : i < l.length) (hb : ∀ j, j ≤ i → inBox 500 500 (nq l j)) :
    ∀ (d m : Nat), m + d = i → (∃ j, m ≤ j ∧ j < i ∧ ¬ PairOk l i j) → Ev (fun k => spec_cuGood.l1 k a i l l.length i (l.take i) i m W H l (nq l i).f0 (nq l i).f1 (nq l i).f2) false
  | 0, m, hd, hp => by obtain ⟨j, h1, h2, _⟩ := hp; omega
  | d + 1, m, hd, hp => by
    refine good_l1_step W H l a i m (by omega) hi ?_
    by_cases p1 : Apart (nq l i) (nq l m)
    · rw [(apart_ovl _ _ (hb i (Nat.le_refl _)) (hb m (by omega))).2 p1]
      refine Ev.step (fun _ => spec_cuGood.j4.eq_2 ..) (ev_neg (by simp) ?_)
      rw [w64 (by omega) (by omega), w64 (by omega) (by omega)]
      by_cases c : m + 1 = i
      · by_cases p2 : Lt (nq l m) (nq l i)
        · exfalso
          obtain ⟨j, h1, h2, h3⟩ := hp
          have : j = m := by omega
          subst this
          exact h3 ⟨p1, fun _ => p2⟩
        · refine ev_pos (by omega) (ev_call (cuLess_f (nq l m) (nq l i)) (ev_neg (fun h => p2 ((lt_less _ _).1 h)) (ev_some rfl)))
      · refine ev_neg (by omega) (good_fail hl a i hi hb d (m + 1) (by omega) ?_)
        obtain ⟨j, h1, h2, h3⟩ := hp
        refine ⟨j, ?_, h2, h3⟩
        rcases Nat.lt_or_ge m j with h | h
        · omega
        · have : j = m := by omega
          subst this
          exact absurd ⟨p1, fun h => absurd h c⟩ h3
    · have : ovl (nq l i) (nq l m) = true := by
        rw [← Bool.not_eq_false]
        intro h
        exact p1 ((apart_ovl _ _ (hb i (Nat.le_refl _)) (hb m (by omega))).1 h)
      rw [this]
      exact Ev.step (fun _ => spec_cuGood.j4.eq_2 ..) (ev_pos rfl (ev_some rfl))
theorem good_round (a : Int) (i : Nat) (hi : i < l.length) (hW : 1 ≤ W ∧ W ≤ 500) (hH : 1 ≤ H ∧ H ≤ 500) {r : Bool}
    (h : inBox W H (nq l i) → Ev (fun k => spec_cuGood.l1 k (wrap64 (a + wrap64 ((nq l i).f2 * (nq l i).f2))) i l l.length i (l.take i) i (0 : Nat) W H l (nq l i).f0 (nq l i).f1 (nq l i).f2) r) (hf : ¬ inBox W H (nq l i) → r = false) :
    Ev (fun k => spec_cuGood.l0 k a l l.length i W H l) r := by
  refine Ev.step (fun _ => spec_cuGood.l0.eq_2 ..) (ev_pos (by omega) (ev_pos (by omega) (ev_pos (by omega) ?_)))
  simp only [rdq]
  refine ev_call (l1In_f _ _ _) ?_
  by_cases c1 : inR (nq l i).f2 1 500 = true
  · refine ev_pos c1 (ev_call (l1In_f _ _ _) ?_)
    rw [inR_iff] at c1
    rw [w64 (by omega) (by omega)]
    by_cases c2 : inR (nq l i).f0 0 (W - (nq l i).f2) = true
    · refine ev_pos c2 ?_
      rw [w64 (by omega) (by omega)]
      refine ev_call (l1In_f _ _ _) ?_
      rw [inR_iff] at c2
      by_cases c3 : inR (nq l i).f1 0 (H - (nq l i).f2) = true
      · rw [c3]
        rw [inR_iff] at c3
        refine Ev.step (fun _ => spec_cuGood.j2.eq_2 ..) (ev_neg (by simp) (ev_pos (by omega) (ev_pos (by omega) ?_)))
        refine ev_call rfl ?_
        simp only [Int.toNat_natCast]
        have := h (by unfold inBox; omega)
        simpa [Nat.min_eq_left (Nat.le_of_lt hi)] using this
      · have : r = false := hf (fun hb => c3 (inR_iff.2 (by unfold inBox at hb; omega)))
        subst this
        rw [Bool.not_eq_true] at c3
        rw [c3]
        exact Ev.step (fun _ => spec_cuGood.j2.eq_2 ..) (ev_pos rfl (ev_some rfl))
    · have : r = false := hf (fun hb => c2 (inR_iff.2 (by unfold inBox at hb; omega)))
      subst this
      exact ev_neg c2 (Ev.step (fun _ => spec_cuGood.j2.eq_2 ..) (ev_pos rfl (ev_some rfl)))
  · have : r = false := hf (fun hb => c1 (inR_iff.2 (by unfold inBox at hb; omega)))
    subst this
    exact ev_neg c1 (Ev.step (fun _ => spec_cuGood.j2.eq_2 ..) (ev_pos rfl (ev_some rfl)))
theorem good_l0 (hl : l.length ≤ 30) (hW : 1 ≤ W ∧ W ≤ 500) (hH : 1 ≤ H ∧ H ≤ 500) : ∀ (d i : Nat), i + d = l.length → (∀ j, j < i → OkS W H l j) → Ev (fun k => spec_cuGood.l0 k (area (l.take i)) l l.length i W H l) (goodB W H l)
  | 0, i, hd, hs => by
    refine Ev.step (fun _ => spec_cuGood.l0.eq_2 ..) (ev_neg (by omega) (ev_some ?_))
    have hp : 0 ≤ W * H ∧ W * H ≤ 500 * 500 := ⟨Int.mul_nonneg (by omega) (by omega), Int.mul_le_mul hW.2 hH.2 (by omega) (by omega)⟩
    rw [w64 (by omega) (by omega), show i = l.length by omega, List.take_length, Bool.eq_iff_iff, goodB_iff, good_iff, beq_iff_eq]
    exact ⟨fun h => ⟨hW, hH, hl, fun j hj => hs j (by omega), h⟩, fun h => h.2.2.2.2⟩
  | d + 1, i, hd, hs => by
    have hnot : ¬ OkS W H l i → goodB W H l = false := fun h => by
      rw [Bool.eq_false_iff]
      intro hg
      rw [goodB_iff, good_iff] at hg
      exact h (hg.2.2.2.1 i (by omega))
    refine good_round W H l _ i (by omega) hW hH (fun hb => ?_) (fun hb => hnot (fun h => hb h.1))
    have hbb : ∀ j, j ≤ i → inBox 500 500 (nq l j) := fun j hj => by
      rcases Nat.lt_or_ge j i with h | h
      · exact inBox_mono (hs j h).1 hW.2 hH.2
      · rw [show j = i by omega]; exact inBox_mono hb hW.2 hH.2
    have ha := area_bd l 500 i (by omega) (fun j hj => by have := hbb j (by omega); unfold inBox at this; omega)
    have hq := hbb i (Nat.le_refl _)
    unfold inBox at hq
    have hsq := sq_le (a := (nq l i).f2) (m := 500) (by omega) (by omega)
    rw [w64 (e := (nq l i).f2 * (nq l i).f2) (by omega) (by omega), w64 (by omega) (by omega), ← area_take l i (by omega)]
    by_cases c : ∃ j, 0 ≤ j ∧ j < i ∧ ¬ PairOk l i j
    · rw [hnot (fun h => by obtain ⟨j, _, h2, h3⟩ := c; exact h3 (h.2 j h2))]
      exact good_fail W H l hl _ i (by omega) hbb i 0 (by omega) c
    · have hp : ∀ j, j < i → PairOk l i j := fun j hj => Classical.byContradiction fun h => c ⟨j, by omega, hj, h⟩
      refine good_pass W H l hl _ i (by omega) hbb ?_ i 0 (by omega) (fun j _ h => hp j h)
      exact good_l0 hl hW hH d (i + 1) (by omega) (fun j hj => by
        rcases Nat.lt_or_ge j i with h | h
        · exact hs j h
        · rw [show j = i by omega]; exact ⟨hb, hp⟩)
end
theorem cuGood_ev (W H : Int) (l : List Sq) (hlen : l.length ≤ 9223372036854775807) : Ev (fun k => spec_cuGood.f k W H l) (goodB W H l) := by
  have bad : ¬ ((1 ≤ W ∧ W ≤ 500) ∧ (1 ≤ H ∧ H ≤ 500) ∧ (1 ≤ l.length ∧ l.length ≤ 30)) → goodB W H l = false := fun h => by
    rw [Bool.eq_false_iff]
    intro hg
    rw [goodB_iff] at hg
    exact h ⟨hg.w, hg.h, hg.pos, hg.len⟩
  refine ev_call (l1In_f _ _ _) ?_
  by_cases c1 : inR W 1 500 = true
  · refine ev_pos c1 (ev_call (l1In_f _ _ _) ?_)
    by_cases c2 : inR H 1 500 = true
    · refine ev_pos c2 (ev_call (l1In_f _ _ _) ?_)
      rw [inR_iff] at c1 c2
      by_cases c3 : inR (l.length : Int) 1 30 = true
      · rw [c3]
        rw [inR_iff] at c3
        refine Ev.step (fun _ => spec_cuGood.j0.eq_2 ..) (ev_neg (by simp) ?_)
        have := good_l0 W H l (by omega) c1 c2 l.length 0 (by omega) (fun j hj => by omega)
        simpa [area] using this
      · have e := bad (fun h => c3 (inR_iff.2 (by omega)))
        rw [Bool.not_eq_true] at c3
        rw [c3, e]
        exact Ev.step (fun _ => spec_cuGood.j0.eq_2 ..) (ev_pos rfl (ev_some rfl))
    · rw [bad (fun h => c2 (inR_iff.2 h.2.1))]
      exact ev_neg c2 (Ev.step (fun _ => spec_cuGood.j0.eq_2 ..) (ev_pos rfl (ev_some rfl)))
  · rw [bad (fun h => c1 (inR_iff.2 h.1))]
    exact ev_neg c1 (Ev.step (fun _ => spec_cuGood.j0.eq_2 ..) (ev_pos rfl (ev_some rfl)))
end Go.Proofs.Ytdfcljfajiihdaa.Pure

namespace Go.Proofs.Ytdfcljfajiihdaa.Pure
set_option linter.unusedVariables false
set_option linter.unusedSimpArgs false
open Go.RowKit Go.Proofs.Ytdfcljfajiihdaa.P Go.Proofs.YtdfcljfajiihdaaW.PrintWords Go.Proofs.YtdfcljfajiihdaaW.PrintLast Go.Proofs.Ytdfcljfajiihdaa.Wm Go.Proofs.Ytdfcljfajiihdaa.Aid Go.Proofs.Ytdfcljfajiihdaa.T
theorem rdqL (l : List Sq) (i : Nat) : rd_T88 l (i : Int) = nq l i := by unfold rd_T88 nq; rw [Int.toNat_natCast]; rfl
theorem toSquareS_l (l : List Sq) (hl : l.length ≤ 9223372036854775807) : ∀ (d i : Nat), i + d = l.length → Ev (fun k => laws_toSquareS.l0 k l (l.take i ++ List.replicate d ⟨0, 0, 0⟩) i) l
  | 0, i, hd => Ev.step (fun _ => laws_toSquareS.l0.eq_2 ..) (ev_neg (by omega) (ev_some (by rw [show i = l.length by omega]; simp)))
  | d + 1, i, hd => Ev.step (fun _ => laws_toSquareS.l0.eq_2 ..) (ev_pos (by omega) (ev_pos (by omega) (by
      simp only [rdqL]
      refine ev_call rfl (ev_pos (by simp; omega) ?_)
      rw [w64 (by omega) (by omega)]
      have := toSquareS_l l hl d (i + 1) (by omega)
      rw [show ((i : Int) + 1) = ((i + 1 : Nat) : Int) by omega]
      have e : (l.take i ++ List.replicate (d + 1) (⟨0, 0, 0⟩ : Sq)).set (i : Int).toNat (nq l i) = l.take (i + 1) ++ List.replicate d ⟨0, 0, 0⟩ := by
        have hi : i < l.length := by omega
        simp only [Int.toNat_natCast]
        rw [List.set_append_right _ _ (by simp; omega), List.length_take, show i - min i l.length = 0 by omega, List.replicate_succ, List.set_cons_zero, List.take_succ_eq_append_getElem hi, nq_get l i hi, List.append_assoc]
        rfl
      show Ev (fun n => laws_toSquareS.l0 n l ((l.take i ++ List.replicate (d + 1) (⟨0, 0, 0⟩ : Sq)).set (i : Int).toNat (nq l i)) _) l
      rw [e]
      exact this)))
theorem toSquareS_ev (l : List Sq) (hl : l.length ≤ 1048576) : Ev (fun k => laws_toSquareS.f k l) l := by
  have := toSquareS_l l (by omega) l.length 0 (by omega)
  refine ev_pos (by omega) (ev_pos (by simp; omega) ?_)
  simp only [List.take_zero, List.nil_append] at this
  exact this
theorem toCut_ev (a b : Int) (l : List Sq) (hl : l.length ≤ 1048576) : Ev (fun k => laws_toCut.f k a b l) (a, b, l) := ev_bind (toSquareS_ev l hl) (ev_some rfl)
theorem eqSquareS_refl_l (l : List Sq) (hl : l.length ≤ 9223372036854775807) : ∀ (d i : Nat), i + d = l.length → Ev (fun k => laws_eqSquareS.l0 k l l i) true
  | 0, i, hd => Ev.step (fun _ => laws_eqSquareS.l0.eq_2 ..) (ev_neg (by omega) (ev_some rfl))
  | d + 1, i, hd => Ev.step (fun _ => laws_eqSquareS.l0.eq_2 ..) (ev_pos (by omega) (ev_pos (by omega) (ev_pos (by omega) (by
      refine ev_call (a := true) (by unfold laws_eqSquare.f; simp) (ev_pos rfl ?_)
      rw [w64 (by omega) (by omega)]
      exact eqSquareS_refl_l l hl d (i + 1) (by omega)))))
theorem eqSquareS_refl (l : List Sq) (hl : l.length ≤ 9223372036854775807) : Ev (fun k => laws_eqSquareS.f k l l) true := ev_pos rfl (eqSquareS_refl_l l hl l.length 0 (by omega))
theorem eqCut_refl (a b : Int) (l : List Sq) (hl : l.length ≤ 9223372036854775807) : Ev (fun k => laws_eqCut.f k a b l a b l) true :=
  ev_pos rfl (ev_pos rfl (ev_bind (eqSquareS_refl l hl) (ev_pos rfl (ev_some rfl))))
theorem szCut_f (a b : Int) (l : List Sq) (x : Int) (h0 : 0 ≤ x) (h1 : x ≤ 1048576) (hl : l.length ≤ 9223372036854775807) : laws_szCut.f a b l x = some (if x < l.length then -1 else x - l.length) := by
  unfold laws_szCut.f laws_szSquareS.f
  rw [w64 (by omega) (by omega)]
  by_cases c : x < l.length
  · rw [if_pos (show x - (l.length : Int) < 0 by omega), if_pos c]; rfl
  · rw [if_neg (show ¬ x - (l.length : Int) < 0 by omega), if_neg c]
    simp only [Option.bind_some]
    rw [if_neg (by omega)]
end Go.Proofs.Ytdfcljfajiihdaa.Pure

namespace Go.Proofs.Ytdfcljfajiihdaa.Pure
set_option linter.unusedVariables false
set_option linter.unusedSimpArgs false
open Go.RowKit Go.Proofs.Ytdfcljfajiihdaa.P Go.Proofs.YtdfcljfajiihdaaW.PrintWords Go.Proofs.YtdfcljfajiihdaaW.PrintLast Go.Proofs.Ytdfcljfajiihdaa.Wm Go.Proofs.Ytdfcljfajiihdaa.Aid Go.Proofs.Ytdfcljfajiihdaa.T
def pOk (x : Int) (q : Sq) : Bool := decide (x ≤ q.f0) || decide (x ≥ wrap64 (q.f0 + q.f2))
theorem lineOk_all (x : Int) : ∀ l : List Sq, lineOk l x = l.all (pOk x)
  | [] => rfl
  | q :: l => by
    have ih := lineOk_all x l
    unfold lineOk at ih ⊢
    rw [List.any_cons, List.all_cons, Bool.not_or, ih]
    congr 1
    unfold pOk
    by_cases c1 : q.f0 < x <;> by_cases c2 : x < wrap64 (q.f0 + q.f2)
    · rw [decide_eq_true c1, decide_eq_true c2, decide_eq_false (by omega), decide_eq_false (by omega)]; rfl
    · rw [decide_eq_true c1, decide_eq_false c2, decide_eq_false (by omega), decide_eq_true (by omega)]; rfl
    · rw [decide_eq_false c1, decide_eq_true (show x ≤ q.f0 by omega)]; rfl
    · rw [decide_eq_false c1, decide_eq_true (show x ≤ q.f0 by omega)]; rfl
theorem jo_l1 (l : List Sq) (hl : l.length ≤ 1000) (out : List Int) (W x a0 a1 : Int) {r : List Int} : ∀ (d i : Nat) (b : Bool), i + d = l.length →
    Ev (fun k => if (b && (l.drop i).all (pOk x)) = true then (if out.length < 17592186044416 then (spec_joLines.l0 k true (out ++ [x]) W (wrap64 (x + 1)) a0 a1 l) else (none)) else (spec_joLines.l0 k true out W (wrap64 (x + 1)) a0 a1 l)) r →
    Ev (fun k => spec_joLines.l1 k true out W x b l l.length i a0 a1 l) r
  | 0, i, b, hd, hr => by
    rw [List.drop_eq_nil_of_le (by omega), List.all_nil, Bool.and_true] at hr
    exact Ev.step (fun _ => spec_joLines.l1.eq_2 ..) (ev_neg (by omega) hr)
  | d + 1, i, b, hd, hr => by
    have hi : i < l.length := by omega
    have e : l.drop i = nq l i :: l.drop (i + 1) := by
      rw [List.drop_eq_getElem_cons hi]
      unfold nq
      rw [List.getD_eq_getElem?_getD, List.getElem?_eq_getElem hi]
      rfl
    rw [e, List.all_cons, ← Bool.and_assoc] at hr
    have ih := jo_l1 l hl out W x a0 a1 d (i + 1) (b && pOk x (nq l i)) (by omega) hr
    refine Ev.step (fun _ => spec_joLines.l1.eq_2 ..) (ev_pos (by omega) (ev_pos (by omega) (ev_pos (by omega) (ev_pos rfl ?_))))
    rw [w64 (e := (i : Int) + 1) (by omega) (by omega), rdq]
    cases b
    · exact ev_neg (by simp) ih
    · refine ev_pos rfl ?_
      by_cases c1 : x ≤ (nq l i).f0
      · refine ev_pos c1 ?_
        have : pOk x (nq l i) = true := by unfold pOk; rw [decide_eq_true c1]; rfl
        rw [this] at ih
        exact ih
      · refine ev_neg c1 ?_
        have : pOk x (nq l i) = decide (x ≥ wrap64 ((nq l i).f0 + (nq l i).f2)) := by unfold pOk; rw [decide_eq_false c1]; rfl
        rw [this] at ih
        exact ih
theorem jo_l0 (l : List Sq) (hl : l.length ≤ 1000) (W : Nat) (hW : W ≤ 1000) (a0 a1 : Int) : ∀ (d n : Nat), n + 1 + d = W → Ev (fun k => spec_joLines.l0 k true (linesTo l n) W ((n + 1 : Nat) : Int) a0 a1 l) (linesTo l (W - 1))
  | 0, n, hd => Ev.step (fun _ => spec_joLines.l0.eq_2 ..) (ev_neg (by omega) (ev_some (by congr 1; omega)))
  | d + 1, n, hd => by
    have ih := jo_l0 l hl W hW a0 a1 d (n + 1) (by omega)
    have hlen := linesTo_len l n
    refine Ev.step (fun _ => spec_joLines.l0.eq_2 ..) (ev_pos (by omega) (jo_l1 l hl _ _ _ _ _ l.length 0 true (by omega) ?_))
    rw [List.drop_zero, Bool.true_and, ← lineOk_all, w64 (by omega) (by omega), show ((n + 1 : Nat) : Int) + 1 = ((n + 1 + 1 : Nat) : Int) by omega]
    simp only [linesTo] at ih
    by_cases c : lineOk l ((n + 1 : Nat) : Int) = true
    · rw [if_pos c] at ih
      exact ev_pos c (ev_pos (by omega) ih)
    · rw [if_neg c, List.append_nil] at ih
      exact ev_neg c ih
theorem joLines_ev (l : List Sq) (hl : l.length ≤ 1000) (W : Nat) (hW : 1 ≤ W ∧ W ≤ 1000) (b : Int) : Ev (fun k => spec_joLines.f k W b l true) (linesTo l (W - 1)) :=
  ev_pos rfl (Ev.step (fun _ => spec_joLines.j0.eq_2 ..) (jo_l0 l hl W hW.2 W b (W - 1) 0 (by omega)))
end Go.Proofs.Ytdfcljfajiihdaa.Pure

namespace Go.Proofs.Ytdfcljfajiihdaa.Pure
set_option linter.unusedVariables false
set_option linter.unusedSimpArgs false
open Go.RowKit Go.Proofs.Ytdfcljfajiihdaa.P Go.Proofs.YtdfcljfajiihdaaW.PrintWords Go.Proofs.YtdfcljfajiihdaaW.PrintLast Go.Proofs.Ytdfcljfajiihdaa.Wm Go.Proofs.Ytdfcljfajiihdaa.Aid Go.Proofs.Ytdfcljfajiihdaa.T
def mkS (m : Int) : Nat → List Sq
  | 0 => []
  | n + 1 => ⟨m, m + 1, m + 2⟩ :: mkS (m + 3) n
theorem mkS_length : ∀ (n : Nat) (m : Int), (mkS m n).length = n
  | 0, m => rfl
  | n + 1, m => by simp only [mkS, List.length_cons, mkS_length n]
theorem set_at (pre : List Sq) (q x : Sq) (rest : List Sq) : (pre ++ q :: rest).set pre.length x = pre ++ x :: rest := by
  rw [List.set_append_right _ _ (Nat.le_refl _), Nat.sub_self, List.set_cons_zero]
theorem nq_at (pre : List Sq) (q : Sq) (rest : List Sq) : nq (pre ++ q :: rest) pre.length = q := by
  unfold nq
  rw [List.getD_eq_getElem?_getD, List.getElem?_append_right (Nat.le_refl _), Nat.sub_self]
  rfl
theorem markE_l : ∀ (rest pre : List Sq) (m : Int), (pre ++ rest).length ≤ 1048576 → 0 ≤ m → m + 3 * (rest.length : Int) ≤ 1000000000000000 → Ev (fun k => laws_markSquareS.l0 k (pre ++ rest) m pre.length) (m + 3 * (rest.length : Int), pre ++ mkS m rest.length)
  | [], pre, m, hl, h0, hm => Ev.step (fun _ => laws_markSquareS.l0.eq_2 ..) (ev_neg (by simp) (ev_some (by simp [mkS])))
  | q :: rest, pre, m, hl, h0, hm => by
    simp only [List.length_append, List.length_cons] at hl hm
    have ih := markE_l rest (pre ++ [⟨m, m + 1, m + 2⟩]) (m + 3) (by simp; omega) (by omega) (by omega)
    refine Ev.step (fun _ => laws_markSquareS.l0.eq_2 ..) (ev_pos (by simp; omega) (ev_pos (by omega) ?_))
    simp only [Option.bind_some, Int.toNat_natCast, rdq, nq_at, set_at]
    rw [w64 (e := m + 1) (by omega) (by omega), w64 (e := m + 1 + 1) (by omega) (by omega), w64 (e := m + 1 + 1 + 1) (by omega) (by omega), w64 (e := (pre.length : Int) + 1) (by omega) (by omega)]
    rw [List.append_assoc] at ih
    simp only [List.singleton_append, List.length_append, List.length_cons, List.length_nil, Nat.zero_add] at ih
    rw [show m + 1 + 1 + 1 = m + 3 by omega, show m + 1 + 1 = m + 2 by omega, show (pre.length : Int) + 1 = ((pre.length + 1 : Nat) : Int) by omega]
    rw [List.append_assoc] at ih
    simp only [List.singleton_append] at ih
    simp only [List.length_cons, mkS]
    rw [show m + 3 * ((rest.length + 1 : Nat) : Int) = m + 3 + 3 * (rest.length : Int) by omega]
    exact ih
theorem markE (a b : Int) (l : List Sq) (m : Int) (hl : l.length ≤ 1048576) (h0 : 0 ≤ m) (hm : m + 3 * (l.length : Int) ≤ 1000000000000000) : Ev (fun k => laws_markCut.f k a b l m) (m + 3 * (l.length : Int), mkS m l.length) := by
  have := markE_l l [] m (by simpa using hl) h0 hm
  simp only [List.nil_append] at this
  exact ev_bind (a := (m + 3 * (l.length : Int), mkS m l.length)) this (ev_some rfl)
theorem heldE_l : ∀ (n : Nat) (pre : List Sq) (m : Int), pre.length + n ≤ 1048576 → 0 ≤ m → m + 3 * (n : Int) ≤ 1000000000000000 → Ev (fun k => laws_heldSquareS.l0 k (pre ++ mkS m n) m pre.length) (m + 3 * (n : Int))
  | 0, pre, m, hl, h0, hm => Ev.step (fun _ => laws_heldSquareS.l0.eq_2 ..) (ev_neg (by simp [mkS]) (ev_some (by simp)))
  | n + 1, pre, m, hl, h0, hm => by
    have ih := heldE_l n (pre ++ [⟨m, m + 1, m + 2⟩]) (m + 3) (by simp; omega) (by omega) (by omega)
    refine Ev.step (fun _ => laws_heldSquareS.l0.eq_2 ..) (ev_pos (by simp [mkS, mkS_length]; omega) (ev_pos (by omega) ?_))
    simp only [mkS, rdq, nq_at]
    rw [w64 (e := m + 1) (by omega) (by omega), w64 (e := m + 1 + 1) (by omega) (by omega), w64 (e := m + 1 + 1 + 1) (by omega) (by omega), w64 (e := (pre.length : Int) + 1) (by omega) (by omega)]
    refine ev_pos (by first | rfl | trivial) (ev_pos (by first | rfl | trivial) (ev_pos (by first | omega | trivial) ?_))
    rw [List.append_assoc] at ih
    simp only [List.singleton_append, List.length_append, List.length_cons, List.length_nil, Nat.zero_add] at ih
    rw [show m + 1 + 1 + 1 = m + 3 by omega, show (pre.length : Int) + 1 = ((pre.length + 1 : Nat) : Int) by omega, show m + 3 * ((n + 1 : Nat) : Int) = m + 3 + 3 * (n : Int) by omega]
    exact ih
theorem heldE (a b : Int) (n : Nat) (m : Int) (hl : n ≤ 1048576) (h0 : 0 ≤ m) (hm : m + 3 * (n : Int) ≤ 1000000000000000) : Ev (fun k => laws_heldCut.f k a b (mkS m n) m) (m + 3 * (n : Int)) := by
  have := heldE_l n [] m (by simpa using hl) h0 hm
  simp only [List.nil_append] at this
  exact ev_bind (a := m + 3 * (n : Int)) this (ev_neg (by omega) (ev_some rfl))
end Go.Proofs.Ytdfcljfajiihdaa.Pure

namespace Go.Proofs.Ytdfcljfajiihdaa.Pure
set_option linter.unusedVariables false
set_option linter.unusedSimpArgs false
open Go.RowKit Go.Proofs.Ytdfcljfajiihdaa.P Go.Proofs.YtdfcljfajiihdaaW.PrintWords Go.Proofs.YtdfcljfajiihdaaW.PrintLast Go.Proofs.Ytdfcljfajiihdaa.Wm Go.Proofs.Ytdfcljfajiihdaa.Aid Go.Proofs.Ytdfcljfajiihdaa.T
theorem linesTo_mem (l : List Sq) : ∀ (n : Nat) (x : Int), x ∈ linesTo l n → lineOk l x = true ∧ 1 ≤ x ∧ x ≤ n
  | 0, x, h => by simp [linesTo] at h
  | n + 1, x, h => by
    simp only [linesTo, List.mem_append] at h
    rcases h with h | h
    · have := linesTo_mem l n x h
      exact ⟨this.1, by omega, by omega⟩
    · split at h
      · rename_i c
        rw [List.mem_singleton] at h
        subst h
        exact ⟨c, by omega, by omega⟩
      · cases h
def idxs (p : Sq → Bool) : List Sq → Nat → List Int
  | [], _ => []
  | q :: l, i => if p q = true then (i : Int) :: idxs p l (i + 1) else idxs p l (i + 1)
def insB (x1 x2 x3 x4 : Int) (q : Sq) : Bool := !(decide (q.f0 ≥ x3) || decide (q.f1 ≥ x4) || decide (wrap64 (q.f0 + q.f2) ≤ x1) || decide (wrap64 (q.f1 + q.f2) ≤ x2))
def subS (x y : Int) (q : Sq) : Sq := ⟨wrap64 (q.f0 - x), wrap64 (q.f1 - y), q.f2⟩
theorem drop_nq (l : List Sq) (i : Nat) (hi : i < l.length) : l.drop i = nq l i :: l.drop (i + 1) := by
  rw [List.drop_eq_getElem_cons hi, nq_get l i hi]
theorem within_l (l : List Sq) (hl : l.length ≤ 1000) (x1 x2 x3 x4 : Int) (hin : ∀ q ∈ l, insB x1 x2 x3 x4 q = true → q.f0 ≥ x1 ∧ q.f1 ≥ x2 ∧ wrap64 (q.f0 + q.f2) ≤ x3 ∧ wrap64 (q.f1 + q.f2) ≤ x4) :
    ∀ (d i : Nat) (acc : List Int), i + d = l.length → acc.length ≤ i → Ev (fun k => impl_Cut_within.l0 k x1 x2 x3 x4 acc l l.length i) (acc ++ idxs (insB x1 x2 x3 x4) (l.drop i) i, true)
  | 0, i, acc, hd, ha => by
    rw [List.drop_eq_nil_of_le (by omega)]
    exact Ev.step (fun _ => impl_Cut_within.l0.eq_2 ..) (ev_neg (by omega) (ev_some (by simp [idxs])))
  | d + 1, i, acc, hd, ha => by
    have hi : i < l.length := by omega
    have hm := nq_mem l i hi
    have sk : insB x1 x2 x3 x4 (nq l i) = false → Ev (fun k => impl_Cut_within.j2 k x1 x2 x3 x4 acc i l l.length i true (nq l i).f0 (nq l i).f1 (nq l i).f2) (acc ++ idxs (insB x1 x2 x3 x4) (l.drop i) i, true) := fun hz => by
      refine Ev.step (fun _ => impl_Cut_within.j2.eq_2 ..) (ev_pos rfl ?_)
      rw [w64 (by omega) (by omega), drop_nq l i hi]
      simp only [idxs, hz]
      exact within_l l hl x1 x2 x3 x4 hin d (i + 1) acc (by omega) (by omega)
    refine Ev.step (fun _ => impl_Cut_within.l0.eq_2 ..) (ev_pos (by omega) (ev_pos (by omega) (ev_pos (by omega) ?_)))
    rw [rdq]
    by_cases c1 : (nq l i).f0 ≥ x3
    · exact ev_pos c1 (sk (by unfold insB; rw [decide_eq_true c1]; rfl))
    refine ev_neg c1 ?_
    by_cases c2 : (nq l i).f1 ≥ x4
    · exact ev_pos c2 (sk (by unfold insB; rw [decide_eq_true c2]; simp))
    refine ev_neg c2 ?_
    by_cases c3 : wrap64 ((nq l i).f0 + (nq l i).f2) ≤ x1
    · exact ev_pos c3 (sk (by unfold insB; rw [decide_eq_true c3]; simp))
    refine ev_neg c3 ?_
    by_cases c4 : wrap64 ((nq l i).f1 + (nq l i).f2) ≤ x2
    · rw [decide_eq_true c4]
      exact sk (by unfold insB; rw [decide_eq_true c4]; simp)
    rw [decide_eq_false c4]
    have hz : insB x1 x2 x3 x4 (nq l i) = true := by
      unfold insB
      rw [decide_eq_false c1, decide_eq_false c2, decide_eq_false c3, decide_eq_false c4]
      rfl
    obtain ⟨g1, g2, g3, g4⟩ := hin _ hm hz
    refine Ev.step (fun _ => impl_Cut_within.j2.eq_2 ..) (ev_neg (by simp) (ev_pos g1 (ev_pos g2 (ev_pos g3 (ev_pos g4 (ev_pos (by omega) ?_))))))
    have ih := within_l l hl x1 x2 x3 x4 hin d (i + 1) (acc ++ [(i : Int)]) (by omega) (by simp; omega)
    rw [w64 (by omega) (by omega), drop_nq l i hi]
    simp only [idxs, hz, if_true]
    rw [List.append_assoc] at ih
    exact ih
theorem idxs_bd (p : Sq → Bool) : ∀ (l : List Sq) (i : Nat), ∀ j ∈ idxs p l i, (i : Int) ≤ j ∧ j < (i : Int) + l.length
  | [], i, j, h => by simp [idxs] at h
  | q :: l, i, j, h => by
    simp only [idxs] at h
    simp only [List.length_cons]
    split at h
    · rcases List.mem_cons.1 h with e | h
      · subst e; omega
      · have := idxs_bd p l (i + 1) j h; omega
    · have := idxs_bd p l (i + 1) j h; omega
theorem idxs_len (p : Sq → Bool) : ∀ (l : List Sq) (i : Nat), (idxs p l i).length ≤ l.length
  | [], i => by simp [idxs]
  | q :: l, i => by
    have := idxs_len p l (i + 1)
    simp only [idxs]
    split <;> simp <;> omega
theorem idxs_map (p : Sq → Bool) (l : List Sq) : ∀ (d i : Nat), i + d = l.length → (idxs p (l.drop i) i).map (fun j => nq l j.toNat) = (l.drop i).filter p
  | 0, i, hd => by rw [List.drop_eq_nil_of_le (by omega)]; rfl
  | d + 1, i, hd => by
    have ih := idxs_map p l d (i + 1) (by omega)
    rw [drop_nq l i (by omega), List.filter_cons]
    simp only [idxs]
    by_cases c : p (nq l i) = true
    · rw [if_pos c, if_pos c, List.map_cons, ih, Int.toNat_natCast]
    · rw [if_neg c, if_neg c, ih]
theorem taken_l (l : List Sq) (a b x1 x2 c1 c2 : Int) (is : List Int) (hn : is.length ≤ 1000) (hb : ∀ j ∈ is, 0 ≤ j ∧ j < l.length) : ∀ (d i : Nat) (acc : List Sq), i + d = is.length → acc.length ≤ i →
    Ev (fun k => impl_Cut_taken.l0 k x1 x2 is is.length i a b l c1 c2 acc) (c1, c2, acc ++ ((is.drop i).map (fun j => nq l j.toNat)).map (subS x1 x2))
  | 0, i, acc, hd, ha => by
    rw [List.drop_eq_nil_of_le (by omega)]
    exact Ev.step (fun _ => impl_Cut_taken.l0.eq_2 ..) (ev_neg (by omega) (ev_some (by simp)))
  | d + 1, i, acc, hd, ha => by
    have hi : i < is.length := by omega
    have e1 : rd is (i : Int) = is[i] := by unfold rd; rw [Int.toNat_natCast, List.getD_eq_getElem?_getD, List.getElem?_eq_getElem hi]; rfl
    have hj := hb _ (List.getElem_mem hi)
    have e2 : rd_T56 l is[i] = nq l is[i].toNat := by
      have := rdq l is[i].toNat
      rwa [Int.toNat_of_nonneg hj.1] at this
    have ih := taken_l l a b x1 x2 c1 c2 is hn hb d (i + 1) (acc ++ [subS x1 x2 (nq l is[i].toNat)]) (by omega) (by simp; omega)
    refine Ev.step (fun _ => impl_Cut_taken.l0.eq_2 ..) (ev_pos (by omega) (ev_pos (by omega) (ev_pos (by omega) ?_)))
    rw [e1, e2]
    refine ev_pos hj.1 (ev_pos hj.2 (ev_pos (by omega) ?_))
    rw [w64 (e := (i : Int) + 1) (by omega) (by omega), List.drop_eq_getElem_cons hi, List.map_cons, List.map_cons]
    rw [List.append_assoc] at ih
    exact ih
theorem taken_ev (l : List Sq) (hl : l.length ≤ 1000) (a b x1 x2 x3 x4 : Int) (h13 : x1 < x3) (h24 : x2 < x4) (hin : ∀ q ∈ l, insB x1 x2 x3 x4 q = true → q.f0 ≥ x1 ∧ q.f1 ≥ x2 ∧ wrap64 (q.f0 + q.f2) ≤ x3 ∧ wrap64 (q.f1 + q.f2) ≤ x4) :
    Ev (fun k => impl_Cut_taken.f k a b l x1 x2 x3 x4) (wrap64 (x3 - x1), wrap64 (x4 - x2), (l.filter (insB x1 x2 x3 x4)).map (subS x1 x2)) := by
  have hw := within_l l hl x1 x2 x3 x4 hin l.length 0 [] (by omega) (by simp)
  simp only [List.drop_zero, List.nil_append] at hw
  have hm := idxs_map (insB x1 x2 x3 x4) l l.length 0 (by omega)
  simp only [List.drop_zero] at hm
  have hbd := idxs_bd (insB x1 x2 x3 x4) l 0
  have hlen := idxs_len (insB x1 x2 x3 x4) l 0
  refine ev_bind (a := (idxs (insB x1 x2 x3 x4) l 0, true)) ?_ ?_
  · refine ev_call (a := ([] : List Int)) rfl (ev_neg (by omega) ?_)
    rw [decide_eq_false (show ¬ x2 ≥ x4 by omega)]
    exact Ev.step (fun _ => impl_Cut_within.j0.eq_2 ..) (ev_neg (by simp) hw)
  · have := taken_l l a b x1 x2 (wrap64 (x3 - x1)) (wrap64 (x4 - x2)) (idxs (insB x1 x2 x3 x4) l 0) (by omega) (fun j hj => by have := hbd j hj; omega) (idxs (insB x1 x2 x3 x4) l 0).length 0 [] (by omega) (by simp)
    rw [List.drop_zero, hm, List.nil_append] at this
    exact this
theorem joPart_l (l : List Sq) (hl : l.length ≤ 1000) (x w1 h1 w2 h2 : Int) : ∀ (d i : Nat) (A B : List Sq), i + d = l.length → A.length ≤ i → B.length ≤ i →
    Ev (fun k => spec_joPart.l0 k x true l l.length i w1 h1 A w2 h2 B) (w1, h1, A ++ (l.drop i).filter (fun q => !decide (q.f0 ≥ x)), w2, h2, B ++ ((l.drop i).filter (fun q => decide (q.f0 ≥ x))).map (fun q => (⟨wrap64 (q.f0 - x), q.f1, q.f2⟩ : Sq)))
  | 0, i, A, B, hd, ha, hb => by
    rw [List.drop_eq_nil_of_le (by omega)]
    exact Ev.step (fun _ => spec_joPart.l0.eq_2 ..) (ev_neg (by omega) (ev_some (by simp)))
  | d + 1, i, A, B, hd, ha, hb => by
    have hi : i < l.length := by omega
    refine Ev.step (fun _ => spec_joPart.l0.eq_2 ..) (ev_pos (by omega) (ev_pos (by omega) (ev_pos (by omega) (ev_pos rfl ?_))))
    rw [rdq]
    refine Ev.step (fun _ => spec_joPart.j2.eq_2 ..) ?_
    rw [drop_nq l i hi, List.filter_cons, List.filter_cons, w64 (e := (i : Int) + 1) (by omega) (by omega)]
    by_cases c : (nq l i).f0 ≥ x
    · have ih := joPart_l l hl x w1 h1 w2 h2 d (i + 1) A (B ++ [⟨wrap64 ((nq l i).f0 - x), (nq l i).f1, (nq l i).f2⟩]) (by omega) (by omega) (by simp; omega)
      simp only [decide_eq_true c, Bool.not_true, if_true, List.map_cons, Bool.false_eq_true, if_false]
      rw [List.append_assoc] at ih
      exact ev_pos (by omega) ih
    · have ih := joPart_l l hl x w1 h1 w2 h2 d (i + 1) (A ++ [nq l i]) B (by omega) (by simp; omega) (by omega)
      simp only [decide_eq_false c, Bool.not_false, if_true, Bool.false_eq_true, if_false]
      rw [List.append_assoc] at ih
      exact ev_pos (by omega) ih
theorem partDown_both (a b : Int) (l : List Sq) (hl : l.length ≤ 9223372036854775807) : ∃ r : Int × Int × List Sq × Int × Int × List Sq × Bool, r.2.2.1.length ≤ 1000 ∧ r.2.2.2.2.2.1.length ≤ 1000 ∧ Ev (fun k => spec_PartDown.f k a b l) r ∧ Ev (fun k => impl_PartDown.f k a b l) r := by
  by_cases g : goodB a b l = true
  · have hg := goodB_iff.1 g
    have hw := hg.w
    have hh := hg.h
    have hn : l.length ≤ 1000 := by have := hg.len; omega
    obtain ⟨W, rfl⟩ : ∃ W : Nat, a = W := ⟨a.toNat, by omega⟩
    have hll := linesTo_len l (W - 1)
    have hjo := joLines_ev l hn W (by omega) b
    have hld : impl_Cut_linesDown.f W b l = some (linesTo l (W - 1)) := by
      unfold impl_Cut_linesDown.f
      rw [if_pos (by omega), Int.toNat_natCast]
    have hmem := linesTo_mem l (W - 1)
    have hic : impl_IsCut.f W b l = some true := by rw [isCut_f, g]
    generalize linesTo l (W - 1) = ls at hll hjo hld hmem
    by_cases e0 : (ls.length : Int) = 0
    · refine ⟨(0, 0, [], 0, 0, [], false), by simp, by simp, ev_bind (cuGood_ev W b l hl) (ev_pos g (ev_bind hjo (ev_pos e0 (ev_some rfl)))), ?_⟩
      exact ev_call hic (ev_pos rfl (ev_bind (ev_call hld (ev_pos e0 (ev_some rfl))) (ev_some rfl)))
    · obtain ⟨x, hx⟩ : ∃ x, rd ls 0 = x := ⟨_, rfl⟩
      have hxm : x ∈ ls := by
        rw [← hx]
        cases ls with
        | nil => simp at e0
        | cons y ys => exact List.mem_cons_self ..
      obtain ⟨hok, hx1, hx2⟩ := hmem x hxm
      rw [lineOk_all, List.all_eq_true] at hok
      have hbox : ∀ q ∈ l, inBox W b q := hg.box
      have hq : ∀ q ∈ l, wrap64 (q.f0 + q.f2) = q.f0 + q.f2 ∧ wrap64 (q.f1 + q.f2) = q.f1 + q.f2 ∧ 1 ≤ q.f2 ∧ 0 ≤ q.f0 ∧ q.f0 + q.f2 ≤ W ∧ 0 ≤ q.f1 ∧ q.f1 + q.f2 ≤ b ∧ (x ≤ q.f0 ∨ x ≥ q.f0 + q.f2) := fun q hq => by
        have hb1 := hbox q hq
        unfold inBox at hb1
        have hp := hok q hq
        unfold pOk at hp
        rw [w64 (by omega) (by omega), Bool.or_eq_true, decide_eq_true_eq, decide_eq_true_eq] at hp
        refine ⟨w64 (by omega) (by omega), w64 (by omega) (by omega), hb1.1, hb1.2.1, hb1.2.2.1, hb1.2.2.2.1, hb1.2.2.2.2, hp⟩
      have ht1 := taken_ev l hn W b 0 0 x b (by omega) (by omega) (fun q hm hi => by
        have h := hq q hm
        unfold insB at hi
        simp only [h.1, h.2.1, Bool.not_eq_true', Bool.or_eq_false_iff, decide_eq_false_iff_not] at hi ⊢
        omega)
      have ht2 := taken_ev l hn W b x 0 W b (by omega) (by omega) (fun q hm hi => by
        have h := hq q hm
        unfold insB at hi
        simp only [h.1, h.2.1, Bool.not_eq_true', Bool.or_eq_false_iff, decide_eq_false_iff_not] at hi ⊢
        omega)
      have f1 : (l.filter (insB 0 0 x b)).map (subS 0 0) = l.filter (fun q => !decide (q.f0 ≥ x)) := by
        have e1 : l.filter (insB 0 0 x b) = l.filter (fun q => !decide (q.f0 ≥ x)) := List.filter_congr (fun q hm => by
          have h := hq q hm
          unfold insB
          rw [h.1, h.2.1, decide_eq_false (show ¬ q.f1 ≥ b by omega), decide_eq_false (show ¬ q.f0 + q.f2 ≤ 0 by omega), decide_eq_false (show ¬ q.f1 + q.f2 ≤ 0 by omega)]
          simp)
        rw [e1]
        refine (List.map_congr_left (g := id) (fun q hm => ?_)).trans (List.map_id _)
        have h := hq q (List.mem_filter.1 hm).1
        unfold subS
        rw [Int.sub_zero, Int.sub_zero, w64 (by omega) (by omega), w64 (by omega) (by omega)]
        rfl
      have f2 : (l.filter (insB x 0 W b)).map (subS x 0) = (l.filter (fun q => decide (q.f0 ≥ x))).map (fun q => (⟨wrap64 (q.f0 - x), q.f1, q.f2⟩ : Sq)) := by
        have e1 : l.filter (insB x 0 W b) = l.filter (fun q => decide (q.f0 ≥ x)) := List.filter_congr (fun q hm => by
          have h := hq q hm
          unfold insB
          rw [h.1, h.2.1, decide_eq_false (show ¬ q.f0 ≥ W by omega), decide_eq_false (show ¬ q.f1 ≥ b by omega), decide_eq_false (show ¬ q.f1 + q.f2 ≤ 0 by omega)]
          by_cases c : q.f0 ≥ x
          · rw [decide_eq_true c, decide_eq_false (show ¬ q.f0 + q.f2 ≤ x by omega)]; rfl
          · rw [decide_eq_false c, decide_eq_true (show q.f0 + q.f2 ≤ x by omega)]; rfl)
        rw [e1]
        refine List.map_congr_left (fun q hm => ?_)
        have h := hq q (List.mem_filter.1 hm).1
        unfold subS
        rw [Int.sub_zero, w64 (e := q.f1) (by omega) (by omega)]
      have hjp := joPart_l l hn x x b (wrap64 ((W : Int) - x)) b l.length 0 [] [] (by omega) (by simp) (by simp)
      simp only [List.drop_zero, List.nil_append] at hjp
      rw [f1, Int.sub_zero, Int.sub_zero, w64 (e := x) (by omega) (by omega), w64 (e := b) (by omega) (by omega)] at ht1
      rw [f2, Int.sub_zero, w64 (e := b) (by omega) (by omega)] at ht2
      have g1 := List.length_filter_le (fun q : Sq => !decide (q.f0 ≥ x)) l
      have g2 := List.length_filter_le (fun q : Sq => decide (q.f0 ≥ x)) l
      refine ⟨(x, b, l.filter (fun q => !decide (q.f0 ≥ x)), wrap64 ((W : Int) - x), b, (l.filter (fun q => decide (q.f0 ≥ x))).map (fun q => (⟨wrap64 (q.f0 - x), q.f1, q.f2⟩ : Sq)), true), by simp only; omega, by simp only [List.length_map]; omega, ev_bind (cuGood_ev W b l hl) (ev_pos g (ev_bind hjo (ev_neg e0 (ev_pos (by omega) ?_)))), ?_⟩
      · rw [hx]
        exact ev_bind (ev_pos rfl (Ev.step (fun _ => spec_joPart.j0.eq_2 ..) hjp)) (ev_some rfl)
      · refine ev_call hic (ev_pos rfl (ev_bind (a := (x, b, _, wrap64 ((W : Int) - x), b, _, true)) (ev_call hld (ev_neg e0 (ev_pos (by omega) ?_))) (ev_some rfl)))
        rw [hx]
        exact ev_bind ht1 (ev_bind ht2 (ev_some rfl))
  · refine ⟨(0, 0, [], 0, 0, [], false), by simp, by simp, ev_bind (cuGood_ev a b l hl) (ev_neg g (ev_some rfl)), ?_⟩
    exact ev_call (isCut_f a b l) (ev_neg g (ev_some rfl))
theorem FnExactPartDown : laws_FnExactPartDown.Pure := by
  intro a b l _ _ hl _
  unfold maxLen at hl
  obtain ⟨⟨r1, r2, A, r4, r5, B, o⟩, hA, hB, h1, h2⟩ := partDown_both a b l hl
  simp only at hA hB
  refine ⟨_, szCut_f a b l 1048576 (by omega) (by omega) hl, ?_⟩
  by_cases c : (1048576 : Int) < l.length
  · rw [if_pos c]; exact .inl (by omega)
  · rw [if_neg c]
    refine .inr ⟨r1, r2, A, r4, r5, B, o, _, _, _, _, _, _, ev_at (toCut_ev a b l (by omega)), ev_at h1, ev_at h2, ev_at (eqCut_refl r1 r2 A (by omega)), ev_at (eqCut_refl r4 r5 B (by omega)), ev_at (eqCut_refl a b l hl), ev_at (markE a b l 1 (by omega) (by omega) (by omega)), ev_at (markE r1 r2 A 1 (by omega) (by omega) (by omega)), ev_at (markE r4 r5 B (1 + 3 * (A.length : Int)) (by omega) (by omega) (by omega)), ev_at (heldE r1 r2 A.length 1 (by omega) (by omega) (by omega)), ev_at (heldE r4 r5 B.length (1 + 3 * (A.length : Int)) (by omega) (by omega) (by omega)), by omega, by omega, by omega⟩
end Go.Proofs.Ytdfcljfajiihdaa.Pure
