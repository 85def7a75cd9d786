import Derived.Test.YtfmhcgjmgaefcabMFnExactLinesLosex0
import Derived.Test.YtfmhcgjmgaefcabMFnExactLinesLosex1
import Derived.Test.YtfmhcgjmgaefcabMFnExactLinesLosex2
import Derived.Shelf.Abstract
import Derived.Deep.RegionLaw
import Derived.Below
import Derived.Deep.QuietTactic
import Derived.Deep.Draws
namespace Go.Proofs.Ytfmhcgjmgaefcab.P
open Go.RowKit Go.Proofs.YtfmhcgjmgaefcabW.PrintWords Go.Proofs.YtfmhcgjmgaefcabW.PrintLast Go.Proofs.YtfmhcgjmgaefcabW.PrintMore
attribute [local go_sem] max2_int min2_int max_two min_two max_three min_three max_four min_four
set_option linter.unusedVariables false
set_option linter.unusedSimpArgs false

/-! ### spec_feLines: function 43 -/
mutual
def spec_feLines.l0 : Nat → Int → List (List Int) → Int → Int → Option ((List (List Int)))
  | 0, _, _, _, _ => none
  | k + 1, x1, x5, x15, x16 => if x16 < x15 then (if 0 ≤ (wrap64 (x1 + 1)) then (if (wrap64 (x1 + 1) : Int).toNat ≤ 35184372088832 then (if 0 ≤ x16 then (if x16 < (x5.length : Int) then (spec_feLines.l1 k x1 (x5.set (x16 : Int).toNat (List.replicate (wrap64 (x1 + 1) : Int).toNat 0)) x16 1 x15 x16) else (none)) else (none)) else (none)) else (none)) else (some x5)
def spec_feLines.l1 : Nat → Int → List (List Int) → Int → Int → Int → Int → Option ((List (List Int)))
  | 0, _, _, _, _, _, _ => none
  | k + 1, x1, x5, x6, x7, x15, x16 => if x6 > 0 then (spec_feLines.j2 k x1 x5 x6 x7 x15 x16 (decide (x7 ≤ x1))) else (spec_feLines.j2 k x1 x5 x6 x7 x15 x16 false)
def spec_feLines.j2 : Nat → Int → List (List Int) → Int → Int → Int → Int → Bool → Option ((List (List Int)))
  | 0, _, _, _, _, _, _, _ => none
  | k + 1, x1, x5, x6, x7, x15, x16, x31 => if x31 = true then (if x6 = x7 then (spec_feLines.j3 k x1 x5 x6 x7 1 x15 x16) else (spec_feLines.j3 k x1 x5 x6 x7 (wrap64 (x6 * x7)) x15 x16)) else (spec_feLines.l0 k x1 x5 x15 (wrap64 (x16 + 1)))
def spec_feLines.j3 : Nat → Int → List (List Int) → Int → Int → Int → Int → Int → Option ((List (List Int)))
  | 0, _, _, _, _, _, _, _ => none
  | k + 1, x1, x5, x6, x7, x8, x15, x16 => spec_feLines.l2 k x1 x5 x6 x7 x8 1 x15 x16
def spec_feLines.l2 : Nat → Int → List (List Int) → Int → Int → Int → Int → Int → Int → Option ((List (List Int)))
  | 0, _, _, _, _, _, _, _, _ => none
  | k + 1, x1, x5, x6, x7, x8, x9, x15, x16 => if (wrap64 (2 * x9)) ≤ x6 then (if 0 ≤ x9 then (if x9 < (x5.length : Int) then (if 0 ≤ x7 then (if x7 < ((rd_L5 x5 x9).length : Int) then (if 0 ≤ (wrap64 (x6 - x9)) then (if (wrap64 (x6 - x9)) < (x5.length : Int) then (if x7 < ((rd_L5 x5 (wrap64 (x6 - x9))).length : Int) then ((spec_l1Least.f x8 (wrap64 ((rd (rd_L5 x5 x9) x7) + (rd (rd_L5 x5 (wrap64 (x6 - x9))) x7)))).bind fun t112 => (spec_feLines.l2 k x1 x5 x6 x7 t112 (wrap64 (x9 + 1)) x15 x16)) else (none)) else (none)) else (none)) else (none)) else (none)) else (none)) else (none)) else (spec_feLines.l3 k x1 x5 x6 x7 x8 1 x15 x16)
def spec_feLines.l3 : Nat → Int → List (List Int) → Int → Int → Int → Int → Int → Int → Option ((List (List Int)))
  | 0, _, _, _, _, _, _, _, _ => none
  | k + 1, x1, x5, x6, x7, x8, x10, x15, x16 => if (wrap64 (2 * x10)) ≤ x7 then (if 0 ≤ x6 then (if x6 < (x5.length : Int) then (if 0 ≤ x10 then (if x10 < ((rd_L5 x5 x6).length : Int) then (if 0 ≤ (wrap64 (x7 - x10)) then (if (wrap64 (x7 - x10)) < ((rd_L5 x5 x6).length : Int) then ((spec_l1Least.f x8 (wrap64 ((rd (rd_L5 x5 x6) x10) + (rd (rd_L5 x5 x6) (wrap64 (x7 - x10)))))).bind fun t117 => (spec_feLines.l3 k x1 x5 x6 x7 t117 (wrap64 (x10 + 1)) x15 x16)) else (none)) else (none)) else (none)) else (none)) else (none)) else (none)) else (if 0 ≤ x6 then (if x6 < (x5.length : Int) then (if 0 ≤ x7 then (if x7 < ((rd_L5 x5 x6).length : Int) then (spec_feLines.l1 k x1 (x5.set (x6 : Int).toNat ((rd_L5 x5 x6).set (x7 : Int).toNat x8)) x6 (wrap64 (x7 + 1)) x15 x16) else (none)) else (none)) else (none)) else (none))
end
def spec_feLines.f (k : Nat) (a0 : Int) (a1 : Int) : Option ((List (List Int))) := if 0 ≤ (wrap64 (a0 + 1)) then (if (wrap64 (a0 + 1) : Int).toNat ≤ 11728124029610 then ((some (List.replicate (wrap64 (a0 + 1) : Int).toNat [] : List (List Int))).bind fun y101 => (spec_feLines.l0 k a1 y101 (y101.length : Int) 0)) else (none)) else (none)
theorem spec_feLines.mono_l : ∀ k, (∀ y0 y1 y2 y3, LeO (spec_feLines.l0 k y0 y1 y2 y3) (spec_feLines.l0 (k + 1) y0 y1 y2 y3)) ∧ (∀ y0 y1 y2 y3 y4 y5, LeO (spec_feLines.l1 k y0 y1 y2 y3 y4 y5) (spec_feLines.l1 (k + 1) y0 y1 y2 y3 y4 y5)) ∧ (∀ y0 y1 y2 y3 y4 y5 y6, LeO (spec_feLines.j2 k y0 y1 y2 y3 y4 y5 y6) (spec_feLines.j2 (k + 1) y0 y1 y2 y3 y4 y5 y6)) ∧ (∀ y0 y1 y2 y3 y4 y5 y6, LeO (spec_feLines.j3 k y0 y1 y2 y3 y4 y5 y6) (spec_feLines.j3 (k + 1) y0 y1 y2 y3 y4 y5 y6)) ∧ (∀ y0 y1 y2 y3 y4 y5 y6 y7, LeO (spec_feLines.l2 k y0 y1 y2 y3 y4 y5 y6 y7) (spec_feLines.l2 (k + 1) y0 y1 y2 y3 y4 y5 y6 y7)) ∧ (∀ y0 y1 y2 y3 y4 y5 y6 y7, LeO (spec_feLines.l3 k y0 y1 y2 y3 y4 y5 y6 y7) (spec_feLines.l3 (k + 1) y0 y1 y2 y3 y4 y5 y6 y7))
  | 0 => ⟨fun _ _ _ _ r h => by simp [spec_feLines.l0] at h, fun _ _ _ _ _ _ r h => by simp [spec_feLines.l1] at h, fun _ _ _ _ _ _ _ r h => by simp [spec_feLines.j2] at h, fun _ _ _ _ _ _ _ r h => by simp [spec_feLines.j3] at h, fun _ _ _ _ _ _ _ _ r h => by simp [spec_feLines.l2] at h, fun _ _ _ _ _ _ _ _ r h => by simp [spec_feLines.l3] at h⟩
  | k + 1 => by
    obtain ⟨ih0, ih1, ih2, ih3, ih4, ih5⟩ := spec_feLines.mono_l k
    refine ⟨?_, ?_, ?_, ?_, ?_, ?_⟩
    · intro y0 y1 y2 y3
      unfold spec_feLines.l0
      repeat' first
      | (with_reducible exact ih0 _ _ _ _)
      | (with_reducible exact ih1 _ _ _ _ _ _)
      | (with_reducible exact ih2 _ _ _ _ _ _ _)
      | (with_reducible exact ih3 _ _ _ _ _ _ _)
      | (with_reducible exact ih4 _ _ _ _ _ _ _ _)
      | (with_reducible exact ih5 _ _ _ _ _ _ _ _)
      | (with_reducible exact LeO.refl _)
      | (with_reducible exact LeO.none _)
      | (with_reducible refine LeO.ite ?_ ?_)
      | (with_reducible refine LeO.bind ?_ (fun _ => ?_))
      | exact ih0 _ _ _ _
      | exact ih1 _ _ _ _ _ _
      | exact ih2 _ _ _ _ _ _ _
      | exact ih3 _ _ _ _ _ _ _
      | exact ih4 _ _ _ _ _ _ _ _
      | exact ih5 _ _ _ _ _ _ _ _
      | exact LeO.none _
      | refine LeO.ite ?_ ?_
      | refine LeO.bind ?_ (fun _ => ?_)
    · intro y0 y1 y2 y3 y4 y5
      unfold spec_feLines.l1
      repeat' first
      | (with_reducible exact ih0 _ _ _ _)
      | (with_reducible exact ih1 _ _ _ _ _ _)
      | (with_reducible exact ih2 _ _ _ _ _ _ _)
      | (with_reducible exact ih3 _ _ _ _ _ _ _)
      | (with_reducible exact ih4 _ _ _ _ _ _ _ _)
      | (with_reducible exact ih5 _ _ _ _ _ _ _ _)
      | (with_reducible exact LeO.refl _)
      | (with_reducible exact LeO.none _)
      | (with_reducible refine LeO.ite ?_ ?_)
      | (with_reducible refine LeO.bind ?_ (fun _ => ?_))
      | exact ih0 _ _ _ _
      | exact ih1 _ _ _ _ _ _
      | exact ih2 _ _ _ _ _ _ _
      | exact ih3 _ _ _ _ _ _ _
      | exact ih4 _ _ _ _ _ _ _ _
      | exact ih5 _ _ _ _ _ _ _ _
      | exact LeO.none _
      | refine LeO.ite ?_ ?_
      | refine LeO.bind ?_ (fun _ => ?_)
    · intro y0 y1 y2 y3 y4 y5 y6
      unfold spec_feLines.j2
      repeat' first
      | (with_reducible exact ih0 _ _ _ _)
      | (with_reducible exact ih1 _ _ _ _ _ _)
      | (with_reducible exact ih2 _ _ _ _ _ _ _)
      | (with_reducible exact ih3 _ _ _ _ _ _ _)
      | (with_reducible exact ih4 _ _ _ _ _ _ _ _)
      | (with_reducible exact ih5 _ _ _ _ _ _ _ _)
      | (with_reducible exact LeO.refl _)
      | (with_reducible exact LeO.none _)
      | (with_reducible refine LeO.ite ?_ ?_)
      | (with_reducible refine LeO.bind ?_ (fun _ => ?_))
      | exact ih0 _ _ _ _
      | exact ih1 _ _ _ _ _ _
      | exact ih2 _ _ _ _ _ _ _
      | exact ih3 _ _ _ _ _ _ _
      | exact ih4 _ _ _ _ _ _ _ _
      | exact ih5 _ _ _ _ _ _ _ _
      | exact LeO.none _
      | refine LeO.ite ?_ ?_
      | refine LeO.bind ?_ (fun _ => ?_)
    · intro y0 y1 y2 y3 y4 y5 y6
      unfold spec_feLines.j3
      repeat' first
      | (with_reducible exact ih0 _ _ _ _)
      | (with_reducible exact ih1 _ _ _ _ _ _)
      | (with_reducible exact ih2 _ _ _ _ _ _ _)
      | (with_reducible exact ih3 _ _ _ _ _ _ _)
      | (with_reducible exact ih4 _ _ _ _ _ _ _ _)
      | (with_reducible exact ih5 _ _ _ _ _ _ _ _)
      | (with_reducible exact LeO.refl _)
      | (with_reducible exact LeO.none _)
      | (with_reducible refine LeO.ite ?_ ?_)
      | (with_reducible refine LeO.bind ?_ (fun _ => ?_))
      | exact ih0 _ _ _ _
      | exact ih1 _ _ _ _ _ _
      | exact ih2 _ _ _ _ _ _ _
      | exact ih3 _ _ _ _ _ _ _
      | exact ih4 _ _ _ _ _ _ _ _
      | exact ih5 _ _ _ _ _ _ _ _
      | exact LeO.none _
      | refine LeO.ite ?_ ?_
      | refine LeO.bind ?_ (fun _ => ?_)
    · intro y0 y1 y2 y3 y4 y5 y6 y7
      unfold spec_feLines.l2
      repeat' first
      | (with_reducible exact ih0 _ _ _ _)
      | (with_reducible exact ih1 _ _ _ _ _ _)
      | (with_reducible exact ih2 _ _ _ _ _ _ _)
      | (with_reducible exact ih3 _ _ _ _ _ _ _)
      | (with_reducible exact ih4 _ _ _ _ _ _ _ _)
      | (with_reducible exact ih5 _ _ _ _ _ _ _ _)
      | (with_reducible exact LeO.refl _)
      | (with_reducible exact LeO.none _)
      | (with_reducible refine LeO.ite ?_ ?_)
      | (with_reducible refine LeO.bind ?_ (fun _ => ?_))
      | exact ih0 _ _ _ _
      | exact ih1 _ _ _ _ _ _
      | exact ih2 _ _ _ _ _ _ _
      | exact ih3 _ _ _ _ _ _ _
      | exact ih4 _ _ _ _ _ _ _ _
      | exact ih5 _ _ _ _ _ _ _ _
      | exact LeO.none _
      | refine LeO.ite ?_ ?_
      | refine LeO.bind ?_ (fun _ => ?_)
    · intro y0 y1 y2 y3 y4 y5 y6 y7
      unfold spec_feLines.l3
      repeat' first
      | (with_reducible exact ih0 _ _ _ _)
      | (with_reducible exact ih1 _ _ _ _ _ _)
      | (with_reducible exact ih2 _ _ _ _ _ _ _)
      | (with_reducible exact ih3 _ _ _ _ _ _ _)
      | (with_reducible exact ih4 _ _ _ _ _ _ _ _)
      | (with_reducible exact ih5 _ _ _ _ _ _ _ _)
      | (with_reducible exact LeO.refl _)
      | (with_reducible exact LeO.none _)
      | (with_reducible refine LeO.ite ?_ ?_)
      | (with_reducible refine LeO.bind ?_ (fun _ => ?_))
      | exact ih0 _ _ _ _
      | exact ih1 _ _ _ _ _ _
      | exact ih2 _ _ _ _ _ _ _
      | exact ih3 _ _ _ _ _ _ _
      | exact ih4 _ _ _ _ _ _ _ _
      | exact ih5 _ _ _ _ _ _ _ _
      | exact LeO.none _
      | refine LeO.ite ?_ ?_
      | refine LeO.bind ?_ (fun _ => ?_)
theorem spec_feLines.mono : ∀ a0 a1 k, LeO (spec_feLines.f k a0 a1) (spec_feLines.f (k + 1) a0 a1) := by
  intro a0 a1 k
  obtain ⟨ih0, ih1, ih2, ih3, ih4, ih5⟩ := spec_feLines.mono_l k
  unfold spec_feLines.f
  repeat' first
      | (with_reducible exact ih0 _ _ _ _)
      | (with_reducible exact ih1 _ _ _ _ _ _)
      | (with_reducible exact ih2 _ _ _ _ _ _ _)
      | (with_reducible exact ih3 _ _ _ _ _ _ _)
      | (with_reducible exact ih4 _ _ _ _ _ _ _ _)
      | (with_reducible exact ih5 _ _ _ _ _ _ _ _)
      | (with_reducible exact LeO.refl _)
      | (with_reducible exact LeO.none _)
      | (with_reducible refine LeO.ite ?_ ?_)
      | (with_reducible refine LeO.bind ?_ (fun _ => ?_))
      | exact ih0 _ _ _ _
      | exact ih1 _ _ _ _ _ _
      | exact ih2 _ _ _ _ _ _ _
      | exact ih3 _ _ _ _ _ _ _
      | exact ih4 _ _ _ _ _ _ _ _
      | exact ih5 _ _ _ _ _ _ _ _
      | exact LeO.none _
      | refine LeO.ite ?_ ?_
      | refine LeO.bind ?_ (fun _ => ?_)
set_option maxHeartbeats 8000000 in
set_option maxRecDepth 100000 in
theorem spec_feLines.calls (k : Nat) (a0 : Int) (a1 : Int) (r : List (List Int)) (w : World) (h : spec_feLines.f k a0 a1 = some r) :
    Calls Try.prog 43 #[.int .i64 a0, .int .i64 a1] w fun e w' => ∃ v0_ : Value, e = .returned (v0_) ∧ Kd.S (Kd.slice 3 (Kd.int .i64)) 25 w' w.heap.size (fun _ => True) v0_ r ∧ Below w.heap.size w w' := by
  have HB := Aside0.mk (Below.refl w.heap.size w)
  have H : (if 0 ≤ (wrap64 (a0 + 1)) then (if (wrap64 (a0 + 1) : Int).toNat ≤ 11728124029610 then ((some (List.replicate (wrap64 (a0 + 1) : Int).toNat [] : List (List Int))).bind fun y101 => (spec_feLines.l0 k a1 y101 (y101.length : Int) 0)) else (none)) else (none)) = some r := h
  clear h
  obtain ⟨ji3, hji3⟩ : ∃ j_ : Int, (wrap64 (a0 + 1)) = j_ := ⟨_, rfl⟩
  replace H : (if 0 ≤ (ji3) then (if (ji3 : Int).toNat ≤ 11728124029610 then ((some (List.replicate (ji3 : Int).toNat [] : List (List Int))).bind fun y101 => (spec_feLines.l0 k a1 y101 (y101.length : Int) 0)) else (none)) else (none)) = some r := by first | (rw [hji3] at H; exact H) | (simp only [hji3] at H ⊢; exact H)
  have hji3w : (IntKind.i64.wrap (a0 + 1)) = ji3 := (i64_w _).trans hji3
  by_cases c4 : 0 ≤ (ji3)
  · rw [if_pos c4] at H
    have c4b0 := eq_true c4
    have c4b1 : decide (0 ≤ (ji3)) = true := decide_eq_true c4
    clear c4
    by_cases c5 : (ji3 : Int).toNat ≤ 11728124029610
    · rw [if_pos c5] at H
      have c5b0 := eq_true c5
      have c5b1 : decide ((ji3 : Int).toNat ≤ 11728124029610) = true := decide_eq_true c5
      clear c5
      obtain ⟨y101, hy101⟩ : ∃ y_ : List (List Int), y_ = (List.replicate (ji3 : Int).toNat []) := ⟨_, rfl⟩
      replace H : (spec_feLines.l0 k a1 y101 (y101.length : Int) 0) = some r := by first | (rw [hy101]; with_reducible exact H) | (have H2_ := (Option.bind_some _ _).symm.trans H; rw [hy101]; with_reducible exact H2_) | (have H2_ := (Option.bind_some _ _).symm.trans H; with_reducible exact H2_) | with_reducible exact H | (rw [hy101]; exact H) | exact H
      have Ny101 := Aside0.mk hy101
      clear hy101
      have H' := Aside0.mk H
      clear H
      go_enter Try.func43, Try.ntmps43
      go_wp2_with (first | ((with_reducible refine gate_dst (N := 13) rfl ?_); refine Kd.S_make (Kd.slice 3 (Kd.int .i64)) _ 25 rfl (N := 13) rfl 54 _ _ rfl ji3 rfl rfl Try.underlying54 (.slice none 0 0) 24 info25 rfl (by decide) (by omega) [] (ok := fun _ => True) (okp := fun _ => True) ⟨_, rfl, Kd.R_nil _ _ _ _ _⟩ (fun _ hk => hk) trivial (of_decide_eq_true (by first | (with_reducible assumption) | assumption)) (Nat.le_trans (Nat.mul_le_mul_right _ (of_decide_eq_true (by first | (with_reducible assumption) | assumption) : ji3.toNat ≤ 11728124029610)) (by omega)) (Below.refl _ _) (Nat.le_refl _) ?_; intro v102 w6 ho7 hb hg_ hnew_; clear hg_ hnew_; (first | rw [← Ny101.out] at ho7 | (simp only [Int.reduceToNat] at ho7; rw [← Ny101.out] at ho7)); have n0_ := Aside0.mk (Kd.S_lower ho7 (below_size (by repeat (first | (with_reducible first | exact HB.out | apply below_alloc | apply pw_below_drewN | apply below_drew1) | exact HB.out)))); have n1_ := Aside0.mk (below_step (by repeat (first | (with_reducible first | exact HB.out | apply below_alloc | apply pw_below_drewN | apply below_drew1) | exact HB.out)) hb); clear HB; have HO103 := n0_; have HB := n1_; clear n0_ n1_; clear hb ho7; obtain ⟨Ao8, co8, eo8⟩ := Kd.S_slice HO103.out; subst eo8))
      repeat (go_quiet (first | ((with_reducible refine gate_dst (N := 13) rfl ?_); refine Kd.S_make (Kd.slice 3 (Kd.int .i64)) _ 25 rfl (N := 13) rfl 54 _ _ rfl ji3 rfl rfl Try.underlying54 (.slice none 0 0) 24 info25 rfl (by decide) (by omega) [] (ok := fun _ => True) (okp := fun _ => True) ⟨_, rfl, Kd.R_nil _ _ _ _ _⟩ (fun _ hk => hk) trivial (of_decide_eq_true (by first | (with_reducible assumption) | assumption)) (Nat.le_trans (Nat.mul_le_mul_right _ (of_decide_eq_true (by first | (with_reducible assumption) | assumption) : ji3.toNat ≤ 11728124029610)) (by omega)) (Below.refl _ _) (Nat.le_refl _) ?_; intro v102 w6 ho7 hb hg_ hnew_; clear hg_ hnew_; (first | rw [← Ny101.out] at ho7 | (simp only [Int.reduceToNat] at ho7; rw [← Ny101.out] at ho7)); have n0_ := Aside0.mk (Kd.S_lower ho7 (below_size (by repeat (first | (with_reducible first | exact HB.out | apply below_alloc | apply pw_below_drewN | apply below_drew1) | exact HB.out)))); have n1_ := Aside0.mk (below_step (by repeat (first | (with_reducible first | exact HB.out | apply below_alloc | apply pw_below_drewN | apply below_drew1) | exact HB.out)) hb); clear HB; have HO103 := n0_; have HB := n1_; clear n0_ n1_; clear hb ho7; obtain ⟨Ao8, co8, eo8⟩ := Kd.S_slice HO103.out; subst eo8)); try go_wp2_with (first | ((with_reducible refine gate_dst (N := 13) rfl ?_); refine Kd.S_make (Kd.slice 3 (Kd.int .i64)) _ 25 rfl (N := 13) rfl 54 _ _ rfl ji3 rfl rfl Try.underlying54 (.slice none 0 0) 24 info25 rfl (by decide) (by omega) [] (ok := fun _ => True) (okp := fun _ => True) ⟨_, rfl, Kd.R_nil _ _ _ _ _⟩ (fun _ hk => hk) trivial (of_decide_eq_true (by first | (with_reducible assumption) | assumption)) (Nat.le_trans (Nat.mul_le_mul_right _ (of_decide_eq_true (by first | (with_reducible assumption) | assumption) : ji3.toNat ≤ 11728124029610)) (by omega)) (Below.refl _ _) (Nat.le_refl _) ?_; intro v102 w6 ho7 hb hg_ hnew_; clear hg_ hnew_; (first | rw [← Ny101.out] at ho7 | (simp only [Int.reduceToNat] at ho7; rw [← Ny101.out] at ho7)); have n0_ := Aside0.mk (Kd.S_lower ho7 (below_size (by repeat (first | (with_reducible first | exact HB.out | apply below_alloc | apply pw_below_drewN | apply below_drew1) | exact HB.out)))); have n1_ := Aside0.mk (below_step (by repeat (first | (with_reducible first | exact HB.out | apply below_alloc | apply pw_below_drewN | apply below_drew1) | exact HB.out)) hb); clear HB; have HO103 := n0_; have HB := n1_; clear n0_ n1_; clear hb ho7; obtain ⟨Ao8, co8, eo8⟩ := Kd.S_slice HO103.out; subst eo8)))
      go_loopg [16] k (fun kq v16 w' => ∃ (x5_1 : List (List Int)) (x16_1 : Int), v16 = .int .i64 x16_1 ∧ Aside0 (spec_feLines.l0 kq a1 x5_1 (y101.length : Int) x16_1 = some r) ∧ Aside0 (kq ≤ k) ∧ Aside0 (Kd.S (Kd.slice 3 (Kd.int .i64)) 25 w' w.heap.size (fun _ => True) (.slice Ao8 y101.length co8) x5_1) ∧ Aside0 (Below w.heap.size w w'))
      case atStart => exact ⟨(y101), (0), (by first | rfl | (simp; done) | (simp [*]; done)), H', ⟨Nat.le_refl _⟩, ⟨by (with_reducible repeat (first | apply Kd.S_alloc | apply Kd.S_drewN | apply Kd.S_drew)); exact HO103.out⟩, ⟨by repeat (first | (with_reducible first | exact HB.out | apply below_alloc | apply pw_below_drewN | apply below_drew1) | exact HB.out)⟩⟩
      case round =>
        clear H'
        try clear p2
        try clear c4
        try clear c4b0
        try clear c4b1
        try clear c5
        try clear c5b0
        try clear c5b1
        try clear p6
        obtain ⟨x5_1, x16_1, rfl, HA, HK1, HO_5, HB⟩ := hrel
        have hl5_1 := (Kd.S_reads' HO_5.out).1
        rw [hl5_1] at HO_5
        (try simp only [hl5_1])
        cases gk with
        | zero => exact absurd HA.out (by simp [spec_feLines.l0])
        | succ k1 =>
          have H := HA.out
          clear HA
          simp only [spec_feLines.l0] at H
          by_cases c9 : x16_1 < (y101.length : Int)
          · rw [if_pos c9] at H
            have c9b0 : decide (x16_1 < (y101.length : Int)) = true := decide_eq_true c9
            have c9b0x := c9b0
            (try simp only [hl5_1] at c9b0x)
            (try simp only [hl5_2] at c9b0x)
            clear c9
            obtain ⟨ji10, hji10⟩ : ∃ j_ : Int, (wrap64 (a1 + 1)) = j_ := ⟨_, rfl⟩
            replace H : (if 0 ≤ (ji10) then (if (ji10 : Int).toNat ≤ 35184372088832 then (if 0 ≤ x16_1 then (if x16_1 < (x5_1.length : Int) then (spec_feLines.l1 k1 a1 (x5_1.set (x16_1 : Int).toNat (List.replicate (ji10 : Int).toNat 0)) x16_1 1 (y101.length : Int) x16_1) else (none)) else (none)) else (none)) else (none)) = some r := by first | (rw [hji10] at H; exact H) | (simp only [hji10] at H ⊢; exact H)
            have hji10w : (IntKind.i64.wrap (a1 + 1)) = ji10 := (i64_w _).trans hji10
            by_cases c11 : 0 ≤ (ji10)
            · rw [if_pos c11] at H
              have c11b0 := eq_true c11
              have c11b1 : decide (0 ≤ (ji10)) = true := decide_eq_true c11
              clear c11
              by_cases c12 : (ji10 : Int).toNat ≤ 35184372088832
              · rw [if_pos c12] at H
                have c12b0 := eq_true c12
                have c12b1 : decide ((ji10 : Int).toNat ≤ 35184372088832) = true := decide_eq_true c12
                clear c12
                obtain ⟨y104, hy104⟩ : ∃ y_ : List Int, y_ = (List.replicate (ji10 : Int).toNat 0) := ⟨_, rfl⟩
                replace H : (if 0 ≤ x16_1 then (if x16_1 < (x5_1.length : Int) then (spec_feLines.l1 k1 a1 (x5_1.set (x16_1 : Int).toNat y104) x16_1 1 (y101.length : Int) x16_1) else (none)) else (none)) = some r := by first | (rw [hy104]; with_reducible exact H) | (have H2_ := (Option.bind_some _ _).symm.trans H; rw [hy104]; with_reducible exact H2_) | (have H2_ := (Option.bind_some _ _).symm.trans H; with_reducible exact H2_) | with_reducible exact H | (rw [hy104]; exact H) | exact H
                have Ny104 := Aside0.mk hy104
                clear hy104
                by_cases c13 : 0 ≤ x16_1
                · rw [if_pos c13] at H
                  have c13b0 : decide (0 ≤ x16_1) = true := decide_eq_true c13
                  clear c13
                  by_cases c14 : x16_1 < (x5_1.length : Int)
                  · rw [if_pos c14] at H
                    have c14b0 : decide (x16_1 < (x5_1.length : Int)) = true := decide_eq_true c14
                    have c14b0x := c14b0
                    (try simp only [hl5_1] at c14b0x)
                    (try simp only [hl5_2] at c14b0x)
                    clear c14
                    obtain ⟨y107, hy107⟩ : ∃ y_ : List (List Int), y_ = (x5_1.set (x16_1 : Int).toNat y104) := ⟨_, rfl⟩
                    replace H : (spec_feLines.l1 k1 a1 y107 x16_1 1 (y101.length : Int) x16_1) = some r := by first | (rw [hy107]; with_reducible exact H) | (have H2_ := (Option.bind_some _ _).symm.trans H; rw [hy107]; with_reducible exact H2_) | (have H2_ := (Option.bind_some _ _).symm.trans H; with_reducible exact H2_) | with_reducible exact H | (rw [hy107]; exact H) | exact H
                    have Ny107 := Aside0.mk hy107
                    clear hy107
                    have H' := Aside0.mk H
                    clear H
                    go_wp2_with (first | ((with_reducible refine gate_dst (N := 23) rfl ?_); refine Kd.R_make (Kd.int .i64) _ 3 rfl (N := 23) rfl 25 _ _ rfl ji10 rfl rfl Try.underlying25 (.int .i64 0) 8 info3 rfl (by decide) (by omega) 0 (ok := fun _ => True) (okp := fun _ => True) rfl (fun _ hk => hk) trivial (of_decide_eq_true (by first | (with_reducible assumption) | assumption)) (Nat.le_trans (Nat.mul_le_mul_right _ (of_decide_eq_true (by first | (with_reducible assumption) | assumption) : ji10.toNat ≤ 35184372088832)) (by omega)) (Below.refl _ _) (Nat.le_refl _) ?_; intro v105 w16 ho17 hb hg_ hnew_; clear hg_ hnew_; (first | rw [← Ny104.out] at ho17 | (simp only [Int.reduceToNat] at ho17; rw [← Ny104.out] at ho17)); have n0_ := Aside0.mk (Kd.S_elder' (by (with_reducible repeat (first | apply Kd.S_alloc | apply Kd.S_drewN | apply Kd.S_drew)); exact HO_5.out) (Kd.R_base ho17) hb); have n1_ := Aside0.mk (Kd.R_lower ho17 (below_size (by repeat (first | (with_reducible first | exact HB.out | apply below_alloc | apply pw_below_drewN | apply below_drew1) | exact HB.out)))); have n2_ := Aside0.mk (below_step (by repeat (first | (with_reducible first | exact HB.out | apply below_alloc | apply pw_below_drewN | apply below_drew1) | exact HB.out)) hb); clear HO_5; clear HB; have HO_5 := n0_; have HO106 := n1_; have HB := n2_; clear n0_ n1_ n2_; clear hb ho17; have p15 : 0 ≤ (x16_1 : Int) := of_decide_eq_true (by first | (with_reducible assumption) | assumption); have q15 : (x16_1 : Int) < ((x5_1.length : Int) : Int) := of_decide_eq_true (by first | (with_reducible assumption) | assumption); obtain ⟨go15, co15, eo15, gb15, gl15, cl15, HG15⟩ := Kd.S_form HO_5.out (by omega); (first | cases eo15 | (injection eo15 with ea_ en_ ec_; (first | subst ea_ | (injection ea_ with ea_; subst ea_)); subst ec_; clear en_)); have GB15 := Aside0.mk gb15; have GG15 := Aside0.mk HG15; clear gb15 gl15 HG15; obtain ⟨_, ce15, hcl15, hM15, hcc15, hfr15, _, _⟩ := Kd.S_elem HO_5.out [] (x16_1 : Int) p15 q15; obtain ⟨ve15_0, rfl, ge15_0⟩ := hM15; have hx15_0 := hcc15 0 _ rfl; have hf15_0 := hfr15 0; (try simp only [show ((Kd.slice 3 (Kd.int .i64))).sz = 1 from rfl, Nat.mul_one, Nat.add_zero] at hx15_0); (try simp only [show ((Kd.slice 3 (Kd.int .i64))).sz = 1 from rfl, Nat.mul_one, Nat.add_zero] at hf15_0); clear hcl15 hcc15 hfr15; (try clear hM15); replace p15 := eq_true p15; replace q15 := eq_true q15; obtain ⟨Ao20, co20, eo20⟩ := Kd.R_slice HO106.out; subst eo20; have n_ := Aside0.mk (Kd.S_mono (ok' := (fun k_ => some k_ ≠ (.slice Ao20 y104.length co20 : Value).ownBlock)) HO_5.out (fun k_ hk => hk.2)); clear HO_5; have HO_5 := n_; clear n_; have HX18 := Aside0.mk (show Kd.S (Kd.slice 3 (Kd.int .i64)) 25 w16 w.heap.size (fun k_ => ((fun _ => True)) k_ ∧ ¬ ((fun k_ => some k_ = (.slice Ao20 y104.length co20 : Value).ownBlock)) k_) (.slice (some ⟨go15, 0, none⟩) x5_1.length co8) x5_1 from (by (with_reducible repeat (first | apply Kd.S_alloc | apply Kd.S_drewN | apply Kd.S_drew)); exact Kd.S_mono HO_5.out (fun k_ hk => ⟨trivial, fun e_ => hk e_⟩))); obtain ⟨oki18, ce18, hcl18, hM18, hcc18, hfr18, hoki18, hH18⟩ := Kd.S_elem HX18.out [] (x16_1 : Int) (of_decide_eq_true (by first | (with_reducible assumption) | assumption)) (by have h_ : (x16_1 : Int) < ((x5_1.length : Int) : Int) := of_decide_eq_true (by first | (with_reducible assumption) | assumption); first | exact h_ | (have e_ := (Kd.S_reads' HO_5.out).1; omega) | simpa using h_); obtain ⟨ve18_0, rfl, ge18_0⟩ := hM18; have HP18 := Kd.S_seg hH18 (of_decide_eq_true (by first | (with_reducible assumption) | assumption)) (by have h_ : (x16_1 : Int) < ((x5_1.length : Int) : Int) := of_decide_eq_true (by first | (with_reducible assumption) | assumption); first | exact h_ | (have e_ := (Kd.S_reads' HO_5.out).1; omega) | simpa using h_) (seg := [.slice Ao20 y104.length co20]) (j := 0) (show 1 ≤ 1 from by decide) (x' := y104) (Kd.M_row (Kd.R_mono (Kd.R_tight rfl (Kd.R_mono (ok' := fun k_ => ((fun _ => True)) k_ ∧ k_ ≠ go15) (Kd.R_apart' (HO106.out) (Kd.S_typed HO_5.out) (by decide)) (fun k_ hk => ⟨trivial, fun e_ => (hk.2) (by rw [e_]; rfl)⟩))) (fun _ h_ => Or.inr (h_)))) (fun _ hk => hk) (fun k_ hk_ => ((Kd.R_mono (ok' := fun k_ => ((fun _ => True)) k_ ∧ k_ ≠ go15) (Kd.R_apart' (HO106.out) (Kd.S_typed HO_5.out) (by decide)) (fun k_ hk => ⟨trivial, fun e_ => (hk.2) (by rw [e_]; rfl)⟩))).1 k_ hk_.symm); have hx18_0 := hcc18 0 _ rfl; (try simp only [show ((Kd.slice 3 (Kd.int .i64))).sz = 1 from rfl, Nat.mul_one, Nat.add_zero] at hx18_0); have hf18_0 := hfr18 0; (try simp only [show ((Kd.slice 3 (Kd.int .i64))).sz = 1 from rfl, Nat.mul_one, Nat.add_zero] at hf18_0); clear hcl18 hcc18 hfr18; (try clear hM18); clear hoki18 hH18; (try simp only [show ((Kd.slice 3 (Kd.int .i64))).sz = 1 from rfl, Nat.mul_one, Nat.add_zero] at HP18)) | ((with_reducible refine gate_store (t := 25) (p := 24) rfl ?_); (try (rw [drewN_self w16]; generalize hq_ : World.drewN w16 _ = w16; have n0_ := Aside0.mk (Kd.S_at hq_ HO_5.out); have n1_ := Aside0.mk (below_at hq_ HB.out); clear hq_ HO_5 HB; have HO_5 := n0_; have HB := n1_; clear n0_ n1_; (try (obtain ⟨Ao20, co20, eo20⟩ := Kd.R_slice HO106.out)); (try (subst eo20)); (try (have n_ := Aside0.mk (Kd.S_mono (ok' := (fun k_ => some k_ ≠ (.slice Ao20 y104.length co20 : Value).ownBlock)) HO_5.out (fun k_ hk => hk.2)); clear HO_5; have HO_5 := n_; clear n_)); (try (have HX18 := Aside0.mk (show Kd.S (Kd.slice 3 (Kd.int .i64)) 25 w16 w.heap.size (fun k_ => ((fun _ => True)) k_ ∧ ¬ ((fun k_ => some k_ = (.slice Ao20 y104.length co20 : Value).ownBlock)) k_) (.slice (some ⟨go15, 0, none⟩) x5_1.length co8) x5_1 from (by (with_reducible repeat (first | apply Kd.S_alloc | apply Kd.S_drewN | apply Kd.S_drew)); exact Kd.S_mono HO_5.out (fun k_ hk => ⟨trivial, fun e_ => hk e_⟩))))); (try (obtain ⟨oki18, ce18, hcl18, hM18, hcc18, hfr18, hoki18, hH18⟩ := Kd.S_elem HX18.out [] (x16_1 : Int) (of_decide_eq_true (by first | (with_reducible assumption) | assumption)) (by have h_ : (x16_1 : Int) < ((x5_1.length : Int) : Int) := of_decide_eq_true (by first | (with_reducible assumption) | assumption); first | exact h_ | (have e_ := (Kd.S_reads' HO_5.out).1; omega) | simpa using h_))); (try (obtain ⟨ve18_0, rfl, ge18_0⟩ := hM18)); (try (have HP18 := Kd.S_seg hH18 (of_decide_eq_true (by first | (with_reducible assumption) | assumption)) (by have h_ : (x16_1 : Int) < ((x5_1.length : Int) : Int) := of_decide_eq_true (by first | (with_reducible assumption) | assumption); first | exact h_ | (have e_ := (Kd.S_reads' HO_5.out).1; omega) | simpa using h_) (seg := [.slice Ao20 y104.length co20]) (j := 0) (show 1 ≤ 1 from by decide) (x' := y104) (Kd.M_row (Kd.R_mono (Kd.R_tight rfl (Kd.R_mono (ok' := fun k_ => ((fun _ => True)) k_ ∧ k_ ≠ go15) (Kd.R_apart' (HO106.out) (Kd.S_typed HO_5.out) (by decide)) (fun k_ hk => ⟨trivial, fun e_ => (hk.2) (by rw [e_]; rfl)⟩))) (fun _ h_ => Or.inr (h_)))) (fun _ hk => hk) (fun k_ hk_ => ((Kd.R_mono (ok' := fun k_ => ((fun _ => True)) k_ ∧ k_ ≠ go15) (Kd.R_apart' (HO106.out) (Kd.S_typed HO_5.out) (by decide)) (fun k_ hk => ⟨trivial, fun e_ => (hk.2) (by rw [e_]; rfl)⟩))).1 k_ hk_.symm))); (try (have hx18_0 := hcc18 0 _ rfl)); (try (try simp only [show ((Kd.slice 3 (Kd.int .i64))).sz = 1 from rfl, Nat.mul_one, Nat.add_zero] at hx18_0)); (try (have hf18_0 := hfr18 0)); (try (try simp only [show ((Kd.slice 3 (Kd.int .i64))).sz = 1 from rfl, Nat.mul_one, Nat.add_zero] at hf18_0)); (try (clear hcl18 hcc18 hfr18; (try clear hM18); clear hoki18 hH18)); (try (try simp only [show ((Kd.slice 3 (Kd.int .i64))).sz = 1 from rfl, Nat.mul_one, Nat.add_zero] at HP18)))); refine store_event (t := 25) (p := 24) (v := ?vo_w19) (w1 := (w16.setCell ⟨go15, (x16_1 : Int).toNat, none⟩ (.slice Ao20 y104.length co20))) ?hg ?ho ?hn ?hr ?_; (case ho => rfl); (case hg => rfl); (case hn => rfl); (case hr => first | (go_simp; done) | (go_simp; rfl)); intro w19 hw; have hg : w16.grownBy w19 (some go15) := (by rw [hw]; exact HP18.2); have hp_ : Kd.S (Kd.slice 3 (Kd.int .i64)) 25 w19 w.heap.size (fun _ => True) (.slice (some ⟨go15, 0, none⟩) x5_1.length co8) y107 := (by rw [hw, Ny107.out]; exact HP18.1); clear HP18; have n0_ := Aside0.mk (hp_); have n1_ := Aside0.mk ((by rw [hw]; exact below_set (HB.out) GB15.out : Below w.heap.size w w19)); clear HO_5; clear HB; clear HO106; have HO_5 := n0_; have HB := n1_; clear n0_ n1_; clear hg hw hp_))
                    repeat (go_quiet (first | ((with_reducible refine gate_dst (N := 23) rfl ?_); refine Kd.R_make (Kd.int .i64) _ 3 rfl (N := 23) rfl 25 _ _ rfl ji10 rfl rfl Try.underlying25 (.int .i64 0) 8 info3 rfl (by decide) (by omega) 0 (ok := fun _ => True) (okp := fun _ => True) rfl (fun _ hk => hk) trivial (of_decide_eq_true (by first | (with_reducible assumption) | assumption)) (Nat.le_trans (Nat.mul_le_mul_right _ (of_decide_eq_true (by first | (with_reducible assumption) | assumption) : ji10.toNat ≤ 35184372088832)) (by omega)) (Below.refl _ _) (Nat.le_refl _) ?_; intro v105 w16 ho17 hb hg_ hnew_; clear hg_ hnew_; (first | rw [← Ny104.out] at ho17 | (simp only [Int.reduceToNat] at ho17; rw [← Ny104.out] at ho17)); have n0_ := Aside0.mk (Kd.S_elder' (by (with_reducible repeat (first | apply Kd.S_alloc | apply Kd.S_drewN | apply Kd.S_drew)); exact HO_5.out) (Kd.R_base ho17) hb); have n1_ := Aside0.mk (Kd.R_lower ho17 (below_size (by repeat (first | (with_reducible first | exact HB.out | apply below_alloc | apply pw_below_drewN | apply below_drew1) | exact HB.out)))); have n2_ := Aside0.mk (below_step (by repeat (first | (with_reducible first | exact HB.out | apply below_alloc | apply pw_below_drewN | apply below_drew1) | exact HB.out)) hb); clear HO_5; clear HB; have HO_5 := n0_; have HO106 := n1_; have HB := n2_; clear n0_ n1_ n2_; clear hb ho17; have p15 : 0 ≤ (x16_1 : Int) := of_decide_eq_true (by first | (with_reducible assumption) | assumption); have q15 : (x16_1 : Int) < ((x5_1.length : Int) : Int) := of_decide_eq_true (by first | (with_reducible assumption) | assumption); obtain ⟨go15, co15, eo15, gb15, gl15, cl15, HG15⟩ := Kd.S_form HO_5.out (by omega); (first | cases eo15 | (injection eo15 with ea_ en_ ec_; (first | subst ea_ | (injection ea_ with ea_; subst ea_)); subst ec_; clear en_)); have GB15 := Aside0.mk gb15; have GG15 := Aside0.mk HG15; clear gb15 gl15 HG15; obtain ⟨_, ce15, hcl15, hM15, hcc15, hfr15, _, _⟩ := Kd.S_elem HO_5.out [] (x16_1 : Int) p15 q15; obtain ⟨ve15_0, rfl, ge15_0⟩ := hM15; have hx15_0 := hcc15 0 _ rfl; have hf15_0 := hfr15 0; (try simp only [show ((Kd.slice 3 (Kd.int .i64))).sz = 1 from rfl, Nat.mul_one, Nat.add_zero] at hx15_0); (try simp only [show ((Kd.slice 3 (Kd.int .i64))).sz = 1 from rfl, Nat.mul_one, Nat.add_zero] at hf15_0); clear hcl15 hcc15 hfr15; (try clear hM15); replace p15 := eq_true p15; replace q15 := eq_true q15; obtain ⟨Ao20, co20, eo20⟩ := Kd.R_slice HO106.out; subst eo20; have n_ := Aside0.mk (Kd.S_mono (ok' := (fun k_ => some k_ ≠ (.slice Ao20 y104.length co20 : Value).ownBlock)) HO_5.out (fun k_ hk => hk.2)); clear HO_5; have HO_5 := n_; clear n_; have HX18 := Aside0.mk (show Kd.S (Kd.slice 3 (Kd.int .i64)) 25 w16 w.heap.size (fun k_ => ((fun _ => True)) k_ ∧ ¬ ((fun k_ => some k_ = (.slice Ao20 y104.length co20 : Value).ownBlock)) k_) (.slice (some ⟨go15, 0, none⟩) x5_1.length co8) x5_1 from (by (with_reducible repeat (first | apply Kd.S_alloc | apply Kd.S_drewN | apply Kd.S_drew)); exact Kd.S_mono HO_5.out (fun k_ hk => ⟨trivial, fun e_ => hk e_⟩))); obtain ⟨oki18, ce18, hcl18, hM18, hcc18, hfr18, hoki18, hH18⟩ := Kd.S_elem HX18.out [] (x16_1 : Int) (of_decide_eq_true (by first | (with_reducible assumption) | assumption)) (by have h_ : (x16_1 : Int) < ((x5_1.length : Int) : Int) := of_decide_eq_true (by first | (with_reducible assumption) | assumption); first | exact h_ | (have e_ := (Kd.S_reads' HO_5.out).1; omega) | simpa using h_); obtain ⟨ve18_0, rfl, ge18_0⟩ := hM18; have HP18 := Kd.S_seg hH18 (of_decide_eq_true (by first | (with_reducible assumption) | assumption)) (by have h_ : (x16_1 : Int) < ((x5_1.length : Int) : Int) := of_decide_eq_true (by first | (with_reducible assumption) | assumption); first | exact h_ | (have e_ := (Kd.S_reads' HO_5.out).1; omega) | simpa using h_) (seg := [.slice Ao20 y104.length co20]) (j := 0) (show 1 ≤ 1 from by decide) (x' := y104) (Kd.M_row (Kd.R_mono (Kd.R_tight rfl (Kd.R_mono (ok' := fun k_ => ((fun _ => True)) k_ ∧ k_ ≠ go15) (Kd.R_apart' (HO106.out) (Kd.S_typed HO_5.out) (by decide)) (fun k_ hk => ⟨trivial, fun e_ => (hk.2) (by rw [e_]; rfl)⟩))) (fun _ h_ => Or.inr (h_)))) (fun _ hk => hk) (fun k_ hk_ => ((Kd.R_mono (ok' := fun k_ => ((fun _ => True)) k_ ∧ k_ ≠ go15) (Kd.R_apart' (HO106.out) (Kd.S_typed HO_5.out) (by decide)) (fun k_ hk => ⟨trivial, fun e_ => (hk.2) (by rw [e_]; rfl)⟩))).1 k_ hk_.symm); have hx18_0 := hcc18 0 _ rfl; (try simp only [show ((Kd.slice 3 (Kd.int .i64))).sz = 1 from rfl, Nat.mul_one, Nat.add_zero] at hx18_0); have hf18_0 := hfr18 0; (try simp only [show ((Kd.slice 3 (Kd.int .i64))).sz = 1 from rfl, Nat.mul_one, Nat.add_zero] at hf18_0); clear hcl18 hcc18 hfr18; (try clear hM18); clear hoki18 hH18; (try simp only [show ((Kd.slice 3 (Kd.int .i64))).sz = 1 from rfl, Nat.mul_one, Nat.add_zero] at HP18)) | ((with_reducible refine gate_store (t := 25) (p := 24) rfl ?_); (try (rw [drewN_self w16]; generalize hq_ : World.drewN w16 _ = w16; have n0_ := Aside0.mk (Kd.S_at hq_ HO_5.out); have n1_ := Aside0.mk (below_at hq_ HB.out); clear hq_ HO_5 HB; have HO_5 := n0_; have HB := n1_; clear n0_ n1_; (try (obtain ⟨Ao20, co20, eo20⟩ := Kd.R_slice HO106.out)); (try (subst eo20)); (try (have n_ := Aside0.mk (Kd.S_mono (ok' := (fun k_ => some k_ ≠ (.slice Ao20 y104.length co20 : Value).ownBlock)) HO_5.out (fun k_ hk => hk.2)); clear HO_5; have HO_5 := n_; clear n_)); (try (have HX18 := Aside0.mk (show Kd.S (Kd.slice 3 (Kd.int .i64)) 25 w16 w.heap.size (fun k_ => ((fun _ => True)) k_ ∧ ¬ ((fun k_ => some k_ = (.slice Ao20 y104.length co20 : Value).ownBlock)) k_) (.slice (some ⟨go15, 0, none⟩) x5_1.length co8) x5_1 from (by (with_reducible repeat (first | apply Kd.S_alloc | apply Kd.S_drewN | apply Kd.S_drew)); exact Kd.S_mono HO_5.out (fun k_ hk => ⟨trivial, fun e_ => hk e_⟩))))); (try (obtain ⟨oki18, ce18, hcl18, hM18, hcc18, hfr18, hoki18, hH18⟩ := Kd.S_elem HX18.out [] (x16_1 : Int) (of_decide_eq_true (by first | (with_reducible assumption) | assumption)) (by have h_ : (x16_1 : Int) < ((x5_1.length : Int) : Int) := of_decide_eq_true (by first | (with_reducible assumption) | assumption); first | exact h_ | (have e_ := (Kd.S_reads' HO_5.out).1; omega) | simpa using h_))); (try (obtain ⟨ve18_0, rfl, ge18_0⟩ := hM18)); (try (have HP18 := Kd.S_seg hH18 (of_decide_eq_true (by first | (with_reducible assumption) | assumption)) (by have h_ : (x16_1 : Int) < ((x5_1.length : Int) : Int) := of_decide_eq_true (by first | (with_reducible assumption) | assumption); first | exact h_ | (have e_ := (Kd.S_reads' HO_5.out).1; omega) | simpa using h_) (seg := [.slice Ao20 y104.length co20]) (j := 0) (show 1 ≤ 1 from by decide) (x' := y104) (Kd.M_row (Kd.R_mono (Kd.R_tight rfl (Kd.R_mono (ok' := fun k_ => ((fun _ => True)) k_ ∧ k_ ≠ go15) (Kd.R_apart' (HO106.out) (Kd.S_typed HO_5.out) (by decide)) (fun k_ hk => ⟨trivial, fun e_ => (hk.2) (by rw [e_]; rfl)⟩))) (fun _ h_ => Or.inr (h_)))) (fun _ hk => hk) (fun k_ hk_ => ((Kd.R_mono (ok' := fun k_ => ((fun _ => True)) k_ ∧ k_ ≠ go15) (Kd.R_apart' (HO106.out) (Kd.S_typed HO_5.out) (by decide)) (fun k_ hk => ⟨trivial, fun e_ => (hk.2) (by rw [e_]; rfl)⟩))).1 k_ hk_.symm))); (try (have hx18_0 := hcc18 0 _ rfl)); (try (try simp only [show ((Kd.slice 3 (Kd.int .i64))).sz = 1 from rfl, Nat.mul_one, Nat.add_zero] at hx18_0)); (try (have hf18_0 := hfr18 0)); (try (try simp only [show ((Kd.slice 3 (Kd.int .i64))).sz = 1 from rfl, Nat.mul_one, Nat.add_zero] at hf18_0)); (try (clear hcl18 hcc18 hfr18; (try clear hM18); clear hoki18 hH18)); (try (try simp only [show ((Kd.slice 3 (Kd.int .i64))).sz = 1 from rfl, Nat.mul_one, Nat.add_zero] at HP18)))); refine store_event (t := 25) (p := 24) (v := ?vo_w19) (w1 := (w16.setCell ⟨go15, (x16_1 : Int).toNat, none⟩ (.slice Ao20 y104.length co20))) ?hg ?ho ?hn ?hr ?_; (case ho => rfl); (case hg => rfl); (case hn => rfl); (case hr => first | (go_simp; done) | (go_simp; rfl)); intro w19 hw; have hg : w16.grownBy w19 (some go15) := (by rw [hw]; exact HP18.2); have hp_ : Kd.S (Kd.slice 3 (Kd.int .i64)) 25 w19 w.heap.size (fun _ => True) (.slice (some ⟨go15, 0, none⟩) x5_1.length co8) y107 := (by rw [hw, Ny107.out]; exact HP18.1); clear HP18; have n0_ := Aside0.mk (hp_); have n1_ := Aside0.mk ((by rw [hw]; exact below_set (HB.out) GB15.out : Below w.heap.size w w19)); clear HO_5; clear HB; clear HO106; have HO_5 := n0_; have HB := n1_; clear n0_ n1_; clear hg hw hp_)); try go_wp2_with (first | ((with_reducible refine gate_dst (N := 23) rfl ?_); refine Kd.R_make (Kd.int .i64) _ 3 rfl (N := 23) rfl 25 _ _ rfl ji10 rfl rfl Try.underlying25 (.int .i64 0) 8 info3 rfl (by decide) (by omega) 0 (ok := fun _ => True) (okp := fun _ => True) rfl (fun _ hk => hk) trivial (of_decide_eq_true (by first | (with_reducible assumption) | assumption)) (Nat.le_trans (Nat.mul_le_mul_right _ (of_decide_eq_true (by first | (with_reducible assumption) | assumption) : ji10.toNat ≤ 35184372088832)) (by omega)) (Below.refl _ _) (Nat.le_refl _) ?_; intro v105 w16 ho17 hb hg_ hnew_; clear hg_ hnew_; (first | rw [← Ny104.out] at ho17 | (simp only [Int.reduceToNat] at ho17; rw [← Ny104.out] at ho17)); have n0_ := Aside0.mk (Kd.S_elder' (by (with_reducible repeat (first | apply Kd.S_alloc | apply Kd.S_drewN | apply Kd.S_drew)); exact HO_5.out) (Kd.R_base ho17) hb); have n1_ := Aside0.mk (Kd.R_lower ho17 (below_size (by repeat (first | (with_reducible first | exact HB.out | apply below_alloc | apply pw_below_drewN | apply below_drew1) | exact HB.out)))); have n2_ := Aside0.mk (below_step (by repeat (first | (with_reducible first | exact HB.out | apply below_alloc | apply pw_below_drewN | apply below_drew1) | exact HB.out)) hb); clear HO_5; clear HB; have HO_5 := n0_; have HO106 := n1_; have HB := n2_; clear n0_ n1_ n2_; clear hb ho17; have p15 : 0 ≤ (x16_1 : Int) := of_decide_eq_true (by first | (with_reducible assumption) | assumption); have q15 : (x16_1 : Int) < ((x5_1.length : Int) : Int) := of_decide_eq_true (by first | (with_reducible assumption) | assumption); obtain ⟨go15, co15, eo15, gb15, gl15, cl15, HG15⟩ := Kd.S_form HO_5.out (by omega); (first | cases eo15 | (injection eo15 with ea_ en_ ec_; (first | subst ea_ | (injection ea_ with ea_; subst ea_)); subst ec_; clear en_)); have GB15 := Aside0.mk gb15; have GG15 := Aside0.mk HG15; clear gb15 gl15 HG15; obtain ⟨_, ce15, hcl15, hM15, hcc15, hfr15, _, _⟩ := Kd.S_elem HO_5.out [] (x16_1 : Int) p15 q15; obtain ⟨ve15_0, rfl, ge15_0⟩ := hM15; have hx15_0 := hcc15 0 _ rfl; have hf15_0 := hfr15 0; (try simp only [show ((Kd.slice 3 (Kd.int .i64))).sz = 1 from rfl, Nat.mul_one, Nat.add_zero] at hx15_0); (try simp only [show ((Kd.slice 3 (Kd.int .i64))).sz = 1 from rfl, Nat.mul_one, Nat.add_zero] at hf15_0); clear hcl15 hcc15 hfr15; (try clear hM15); replace p15 := eq_true p15; replace q15 := eq_true q15; obtain ⟨Ao20, co20, eo20⟩ := Kd.R_slice HO106.out; subst eo20; have n_ := Aside0.mk (Kd.S_mono (ok' := (fun k_ => some k_ ≠ (.slice Ao20 y104.length co20 : Value).ownBlock)) HO_5.out (fun k_ hk => hk.2)); clear HO_5; have HO_5 := n_; clear n_; have HX18 := Aside0.mk (show Kd.S (Kd.slice 3 (Kd.int .i64)) 25 w16 w.heap.size (fun k_ => ((fun _ => True)) k_ ∧ ¬ ((fun k_ => some k_ = (.slice Ao20 y104.length co20 : Value).ownBlock)) k_) (.slice (some ⟨go15, 0, none⟩) x5_1.length co8) x5_1 from (by (with_reducible repeat (first | apply Kd.S_alloc | apply Kd.S_drewN | apply Kd.S_drew)); exact Kd.S_mono HO_5.out (fun k_ hk => ⟨trivial, fun e_ => hk e_⟩))); obtain ⟨oki18, ce18, hcl18, hM18, hcc18, hfr18, hoki18, hH18⟩ := Kd.S_elem HX18.out [] (x16_1 : Int) (of_decide_eq_true (by first | (with_reducible assumption) | assumption)) (by have h_ : (x16_1 : Int) < ((x5_1.length : Int) : Int) := of_decide_eq_true (by first | (with_reducible assumption) | assumption); first | exact h_ | (have e_ := (Kd.S_reads' HO_5.out).1; omega) | simpa using h_); obtain ⟨ve18_0, rfl, ge18_0⟩ := hM18; have HP18 := Kd.S_seg hH18 (of_decide_eq_true (by first | (with_reducible assumption) | assumption)) (by have h_ : (x16_1 : Int) < ((x5_1.length : Int) : Int) := of_decide_eq_true (by first | (with_reducible assumption) | assumption); first | exact h_ | (have e_ := (Kd.S_reads' HO_5.out).1; omega) | simpa using h_) (seg := [.slice Ao20 y104.length co20]) (j := 0) (show 1 ≤ 1 from by decide) (x' := y104) (Kd.M_row (Kd.R_mono (Kd.R_tight rfl (Kd.R_mono (ok' := fun k_ => ((fun _ => True)) k_ ∧ k_ ≠ go15) (Kd.R_apart' (HO106.out) (Kd.S_typed HO_5.out) (by decide)) (fun k_ hk => ⟨trivial, fun e_ => (hk.2) (by rw [e_]; rfl)⟩))) (fun _ h_ => Or.inr (h_)))) (fun _ hk => hk) (fun k_ hk_ => ((Kd.R_mono (ok' := fun k_ => ((fun _ => True)) k_ ∧ k_ ≠ go15) (Kd.R_apart' (HO106.out) (Kd.S_typed HO_5.out) (by decide)) (fun k_ hk => ⟨trivial, fun e_ => (hk.2) (by rw [e_]; rfl)⟩))).1 k_ hk_.symm); have hx18_0 := hcc18 0 _ rfl; (try simp only [show ((Kd.slice 3 (Kd.int .i64))).sz = 1 from rfl, Nat.mul_one, Nat.add_zero] at hx18_0); have hf18_0 := hfr18 0; (try simp only [show ((Kd.slice 3 (Kd.int .i64))).sz = 1 from rfl, Nat.mul_one, Nat.add_zero] at hf18_0); clear hcl18 hcc18 hfr18; (try clear hM18); clear hoki18 hH18; (try simp only [show ((Kd.slice 3 (Kd.int .i64))).sz = 1 from rfl, Nat.mul_one, Nat.add_zero] at HP18)) | ((with_reducible refine gate_store (t := 25) (p := 24) rfl ?_); (try (rw [drewN_self w16]; generalize hq_ : World.drewN w16 _ = w16; have n0_ := Aside0.mk (Kd.S_at hq_ HO_5.out); have n1_ := Aside0.mk (below_at hq_ HB.out); clear hq_ HO_5 HB; have HO_5 := n0_; have HB := n1_; clear n0_ n1_; (try (obtain ⟨Ao20, co20, eo20⟩ := Kd.R_slice HO106.out)); (try (subst eo20)); (try (have n_ := Aside0.mk (Kd.S_mono (ok' := (fun k_ => some k_ ≠ (.slice Ao20 y104.length co20 : Value).ownBlock)) HO_5.out (fun k_ hk => hk.2)); clear HO_5; have HO_5 := n_; clear n_)); (try (have HX18 := Aside0.mk (show Kd.S (Kd.slice 3 (Kd.int .i64)) 25 w16 w.heap.size (fun k_ => ((fun _ => True)) k_ ∧ ¬ ((fun k_ => some k_ = (.slice Ao20 y104.length co20 : Value).ownBlock)) k_) (.slice (some ⟨go15, 0, none⟩) x5_1.length co8) x5_1 from (by (with_reducible repeat (first | apply Kd.S_alloc | apply Kd.S_drewN | apply Kd.S_drew)); exact Kd.S_mono HO_5.out (fun k_ hk => ⟨trivial, fun e_ => hk e_⟩))))); (try (obtain ⟨oki18, ce18, hcl18, hM18, hcc18, hfr18, hoki18, hH18⟩ := Kd.S_elem HX18.out [] (x16_1 : Int) (of_decide_eq_true (by first | (with_reducible assumption) | assumption)) (by have h_ : (x16_1 : Int) < ((x5_1.length : Int) : Int) := of_decide_eq_true (by first | (with_reducible assumption) | assumption); first | exact h_ | (have e_ := (Kd.S_reads' HO_5.out).1; omega) | simpa using h_))); (try (obtain ⟨ve18_0, rfl, ge18_0⟩ := hM18)); (try (have HP18 := Kd.S_seg hH18 (of_decide_eq_true (by first | (with_reducible assumption) | assumption)) (by have h_ : (x16_1 : Int) < ((x5_1.length : Int) : Int) := of_decide_eq_true (by first | (with_reducible assumption) | assumption); first | exact h_ | (have e_ := (Kd.S_reads' HO_5.out).1; omega) | simpa using h_) (seg := [.slice Ao20 y104.length co20]) (j := 0) (show 1 ≤ 1 from by decide) (x' := y104) (Kd.M_row (Kd.R_mono (Kd.R_tight rfl (Kd.R_mono (ok' := fun k_ => ((fun _ => True)) k_ ∧ k_ ≠ go15) (Kd.R_apart' (HO106.out) (Kd.S_typed HO_5.out) (by decide)) (fun k_ hk => ⟨trivial, fun e_ => (hk.2) (by rw [e_]; rfl)⟩))) (fun _ h_ => Or.inr (h_)))) (fun _ hk => hk) (fun k_ hk_ => ((Kd.R_mono (ok' := fun k_ => ((fun _ => True)) k_ ∧ k_ ≠ go15) (Kd.R_apart' (HO106.out) (Kd.S_typed HO_5.out) (by decide)) (fun k_ hk => ⟨trivial, fun e_ => (hk.2) (by rw [e_]; rfl)⟩))).1 k_ hk_.symm))); (try (have hx18_0 := hcc18 0 _ rfl)); (try (try simp only [show ((Kd.slice 3 (Kd.int .i64))).sz = 1 from rfl, Nat.mul_one, Nat.add_zero] at hx18_0)); (try (have hf18_0 := hfr18 0)); (try (try simp only [show ((Kd.slice 3 (Kd.int .i64))).sz = 1 from rfl, Nat.mul_one, Nat.add_zero] at hf18_0)); (try (clear hcl18 hcc18 hfr18; (try clear hM18); clear hoki18 hH18)); (try (try simp only [show ((Kd.slice 3 (Kd.int .i64))).sz = 1 from rfl, Nat.mul_one, Nat.add_zero] at HP18)))); refine store_event (t := 25) (p := 24) (v := ?vo_w19) (w1 := (w16.setCell ⟨go15, (x16_1 : Int).toNat, none⟩ (.slice Ao20 y104.length co20))) ?hg ?ho ?hn ?hr ?_; (case ho => rfl); (case hg => rfl); (case hn => rfl); (case hr => first | (go_simp; done) | (go_simp; rfl)); intro w19 hw; have hg : w16.grownBy w19 (some go15) := (by rw [hw]; exact HP18.2); have hp_ : Kd.S (Kd.slice 3 (Kd.int .i64)) 25 w19 w.heap.size (fun _ => True) (.slice (some ⟨go15, 0, none⟩) x5_1.length co8) y107 := (by rw [hw, Ny107.out]; exact HP18.1); clear HP18; have n0_ := Aside0.mk (hp_); have n1_ := Aside0.mk ((by rw [hw]; exact below_set (HB.out) GB15.out : Below w.heap.size w w19)); clear HO_5; clear HB; clear HO106; have HO_5 := n0_; have HB := n1_; clear n0_ n1_; clear hg hw hp_)))
                    go_loopg [7] k1 (fun kq v7 w' => ∃ (x5_2 : List (List Int)) (x7_2 : Int), v7 = .int .i64 x7_2 ∧ Aside0 (spec_feLines.l1 kq a1 x5_2 x16_1 x7_2 (y101.length : Int) x16_1 = some r) ∧ Aside0 (kq ≤ k1) ∧ Aside0 (Kd.S (Kd.slice 3 (Kd.int .i64)) 25 w' w.heap.size (fun _ => True) (.slice (some ⟨go15, 0, none⟩) x5_1.length co8) x5_2) ∧ Aside0 (Below w.heap.size w w'))
                    case atStart => exact ⟨(y107), (1), (by first | rfl | (simp; done) | (simp [*]; done)), H', ⟨Nat.le_refl _⟩, ⟨by (try simp only [hl5_1]); (with_reducible repeat (first | apply Kd.S_alloc | apply Kd.S_drewN | apply Kd.S_drew)); exact HO_5.out⟩, ⟨by repeat (first | (with_reducible first | exact HB.out | apply below_alloc | apply pw_below_drewN | apply below_drew1) | exact HB.out)⟩⟩
                    case round =>
                      clear H'
                      try clear c1
                      try clear p1
                      try clear q1
                      try clear hx1
                      try clear p2
                      try clear c4
                      try clear c4b0
                      try clear c4b1
                      try clear c5
                      try clear c5b0
                      try clear c5b1
                      try clear p6
                      try clear c9
                      try clear c9b0
                      try clear c11
                      try clear c11b0
                      try clear c11b1
                      try clear c12
                      try clear c12b0
                      try clear c12b1
                      try clear c13
                      try clear c13b0
                      try clear c14
                      try clear c14b0
                      try clear c15
                      try clear p15
                      try clear q15
                      try clear hx15
                      try clear hf15
                      try clear c18
                      try clear hx18
                      try clear hf18
                      try clear hx15_0
                      try clear hx18_0
                      try clear p15
                      try clear p2
                      try clear p6
                      try clear q15
                      obtain ⟨x5_2, x7_2, rfl, HA, HK2, HO_5, HB⟩ := hrel
                      have hl5_2 := (Kd.S_reads' HO_5.out).1
                      rw [hl5_2] at HO_5
                      (try simp only [hl5_2])
                      cases gk with
                      | zero => exact absurd HA.out (by simp [spec_feLines.l1])
                      | succ k2 =>
                        have H := HA.out
                        clear HA
                        simp only [spec_feLines.l1] at H
                        have HC21 := Aside0.mk H
                        clear H
                        go_upto_region 7 with (fail)
                        repeat (go_quiet (fail); go_upto_region 7 with (fail))
                        go_cut [31] (fun v31 wc => ∃ (kq : Nat) (x31_20 : Bool), v31 = .bool x31_20 ∧ Aside0 (spec_feLines.j2 kq a1 x5_2 x16_1 x7_2 (y101.length : Int) x16_1 x31_20 = some r) ∧ Aside0 (kq ≤ k2) ∧ Aside0 (Kd.S (Kd.slice 3 (Kd.int .i64)) 25 wc w.heap.size (fun _ => True) (.slice (some ⟨go15, 0, none⟩) x5_2.length co8) x5_2) ∧ Aside0 (Below w.heap.size w wc))
                        case first =>
                          have H := HC21.out
                          clear HC21
                          by_cases c22 : x16_1 > 0
                          · rw [if_pos c22] at H
                            have c22b0 : decide (0 < x16_1) = true := decide_eq_true c22
                            clear c22
                            (first | rw [c22b0] | (simp only [i64_w, i32_w]; rw [c22b0]) | skip)
                            have H' := Aside0.mk H
                            clear H
                            go_wp2
                            repeat (go_quiet (fail); try go_wp2)
                            go_meet
                            case rel => exact ⟨_, (decide (x7_2 ≤ a1)), (by first | rfl | (simp; done) | (simp [*]; done)), H', ⟨by have := HK1.out; have := HK2.out; first | omega | exact Nat.le_refl _⟩, ⟨by (try simp only [hl5_1]); (try simp only [hl5_2]); (with_reducible repeat (first | apply Kd.S_alloc | apply Kd.S_drewN | apply Kd.S_drew)); exact HO_5.out⟩, ⟨by repeat (first | (with_reducible first | exact HB.out | apply below_alloc | apply pw_below_drewN | apply below_drew1) | exact HB.out)⟩⟩
                          · rw [if_neg c22] at H
                            have c22b0 : decide (0 < x16_1) = false := decide_eq_false c22
                            clear c22
                            (first | rw [c22b0] | (simp only [i64_w, i32_w]; rw [c22b0]) | skip)
                            have H' := Aside0.mk H
                            clear H
                            go_wp2
                            repeat (go_quiet (fail); try go_wp2)
                            go_meet
                            case rel => exact ⟨_, (false), (by first | rfl | (simp; done) | (simp [*]; done)), H', ⟨by have := HK1.out; have := HK2.out; first | omega | exact Nat.le_refl _⟩, ⟨by (try simp only [hl5_1]); (try simp only [hl5_2]); (with_reducible repeat (first | apply Kd.S_alloc | apply Kd.S_drewN | apply Kd.S_drew)); exact HO_5.out⟩, ⟨by repeat (first | (with_reducible first | exact HB.out | apply below_alloc | apply pw_below_drewN | apply below_drew1) | exact HB.out)⟩⟩
                        case rest =>
                          clear HC21
                          try clear c1
                          try clear p1
                          try clear q1
                          try clear hx1
                          try clear c2
                          try clear p2
                          try clear c4
                          try clear c4b0
                          try clear c4b1
                          try clear c5
                          try clear c5b0
                          try clear c5b1
                          try clear p6
                          try clear c9
                          try clear c9b0
                          try clear c11
                          try clear c11b0
                          try clear c11b1
                          try clear c12
                          try clear c12b0
                          try clear c12b1
                          try clear c13
                          try clear c13b0
                          try clear c14
                          try clear c14b0
                          try clear c15
                          try clear p15
                          try clear q15
                          try clear hx15
                          try clear hf15
                          try clear c18
                          try clear hx18
                          try clear hf18
                          try clear c22
                          try clear c22b0
                          try clear hx15_0
                          try clear hx18_0
                          try clear p1
                          try clear p15
                          try clear p2
                          try clear p6
                          try clear q1
                          try clear q15
                          obtain ⟨kq, x31_20, rfl, HA, HJ20, HO_5, HB⟩ := hcut
                          cases kq with
                          | zero => exact absurd HA.out (by simp [spec_feLines.j2])
                          | succ kj20 =>
                            have H := HA.out
                            clear HA
                            simp only [spec_feLines.j2] at H
                            by_cases c23 : x31_20 = true
                            · subst c23
                              have H1 : (if x16_1 = x7_2 then (spec_feLines.j3 kj20 a1 x5_2 x16_1 x7_2 1 (y101.length : Int) x16_1) else (spec_feLines.j3 kj20 a1 x5_2 x16_1 x7_2 (wrap64 (x16_1 * x7_2)) (y101.length : Int) x16_1)) = some r := by rw [if_pos rfl] at H; exact H
                              clear H
                              have H := H1
                              clear H1
                              have HC24 := Aside0.mk H
                              clear H
                              go_upto_if 39 with (fail)
                              repeat (go_quiet (fail); go_upto_if 39 with (fail))
                              go_cut [8] (fun v8 wc => ∃ (kq : Nat) (x8_23 : Int), v8 = .int .i64 x8_23 ∧ Aside0 (spec_feLines.j3 kq a1 x5_2 x16_1 x7_2 x8_23 (y101.length : Int) x16_1 = some r) ∧ Aside0 (kq ≤ kj20) ∧ Aside0 (Kd.S (Kd.slice 3 (Kd.int .i64)) 25 wc w.heap.size (fun _ => True) (.slice (some ⟨go15, 0, none⟩) x5_2.length co8) x5_2) ∧ Aside0 (Below w.heap.size w wc))
                              case first =>
                                have H := HC24.out
                                clear HC24
                                by_cases c25 : x16_1 = x7_2
                                · rw [if_pos c25] at H
                                  have c25b0 : (x16_1 == x7_2) = true := beq_iff_eq.mpr c25
                                  have c25b1 : (x16_1 != x7_2) = false := bne_eq_false_iff_eq.mpr c25
                                  clear c25
                                  (first | rw [c25b0] | (simp only [i64_w, i32_w]; rw [c25b0]) | skip)
                                  have H' := Aside0.mk H
                                  clear H
                                  go_wp2
                                  repeat (go_quiet (fail); try go_wp2)
                                  go_meet
                                  case rel => exact ⟨_, (1), (by first | rfl | (simp; done) | (simp [*]; done)), H', ⟨by have := HK1.out; have := HK2.out; have := HJ20.out; first | omega | exact Nat.le_refl _⟩, ⟨by (try simp only [hl5_1]); (try simp only [hl5_2]); (with_reducible repeat (first | apply Kd.S_alloc | apply Kd.S_drewN | apply Kd.S_drew)); exact HO_5.out⟩, ⟨by repeat (first | (with_reducible first | exact HB.out | apply below_alloc | apply pw_below_drewN | apply below_drew1) | exact HB.out)⟩⟩
                                · rw [if_neg c25] at H
                                  have c25b0 : (x16_1 == x7_2) = false := beq_eq_false_iff_ne.mpr c25
                                  have c25b1 : (x16_1 != x7_2) = true := bne_iff_ne.mpr c25
                                  (first | rw [c25b0] | (simp only [i64_w, i32_w]; rw [c25b0]) | skip)
                                  have H' := Aside0.mk H
                                  clear H
                                  go_wp2
                                  repeat (go_quiet (fail); try go_wp2)
                                  go_meet
                                  case rel => exact ⟨_, (wrap64 (x16_1 * x7_2)), (by first | rfl | (simp; done) | (simp [*]; done)), H', ⟨by have := HK1.out; have := HK2.out; have := HJ20.out; first | omega | exact Nat.le_refl _⟩, ⟨by (try simp only [hl5_1]); (try simp only [hl5_2]); (with_reducible repeat (first | apply Kd.S_alloc | apply Kd.S_drewN | apply Kd.S_drew)); exact HO_5.out⟩, ⟨by repeat (first | (with_reducible first | exact HB.out | apply below_alloc | apply pw_below_drewN | apply below_drew1) | exact HB.out)⟩⟩
                              case rest =>
                                clear HC24
                                try clear c1
                                try clear p1
                                try clear q1
                                try clear hx1
                                try clear c2
                                try clear p2
                                try clear c4
                                try clear c4b0
                                try clear c4b1
                                try clear c5
                                try clear c5b0
                                try clear c5b1
                                try clear p6
                                try clear c9
                                try clear c9b0
                                try clear c11
                                try clear c11b0
                                try clear c11b1
                                try clear c12
                                try clear c12b0
                                try clear c12b1
                                try clear c13
                                try clear c13b0
                                try clear c14
                                try clear c14b0
                                try clear c15
                                try clear p15
                                try clear q15
                                try clear hx15
                                try clear hf15
                                try clear c18
                                try clear hx18
                                try clear hf18
                                try clear c22
                                try clear c22b0
                                try clear c23
                                try clear c25
                                try clear c25b0
                                try clear c25b1
                                try clear hx15_0
                                try clear hx18_0
                                try clear p1
                                try clear p15
                                try clear p2
                                try clear p6
                                try clear q1
                                try clear q15
                                obtain ⟨kq, x8_23, rfl, HA, HJ23, HO_5, HB⟩ := hcut
                                cases kq with
                                | zero => exact absurd HA.out (by simp [spec_feLines.j3])
                                | succ kj23 =>
                                  have H := HA.out
                                  clear HA
                                  simp only [spec_feLines.j3] at H
                                  have H' := Aside0.mk H
                                  clear H
                                  go_wp2
                                  repeat (go_quiet (fail); try go_wp2)
                                  go_loopg [8, 9] kj23 (fun kq v8 v9 w' => ∃ (x8_5 : Int) (x9_5 : Int), v8 = .int .i64 x8_5 ∧ v9 = .int .i64 x9_5 ∧ Aside0 (spec_feLines.l2 kq a1 x5_2 x16_1 x7_2 x8_5 x9_5 (y101.length : Int) x16_1 = some r) ∧ Aside0 (kq ≤ kj23) ∧ Aside0 (Kd.S (Kd.slice 3 (Kd.int .i64)) 25 w' w.heap.size (fun _ => True) (.slice (some ⟨go15, 0, none⟩) x5_2.length co8) x5_2) ∧ Aside0 (Below w.heap.size w w'))
                                  case atStart => exact ⟨(x8_23), (1), (by first | rfl | (simp; done) | (simp [*]; done)), (by first | rfl | (simp; done) | (simp [*]; done)), H', ⟨Nat.le_refl _⟩, ⟨by (try simp only [hl5_1]); (try simp only [hl5_2]); (with_reducible repeat (first | apply Kd.S_alloc | apply Kd.S_drewN | apply Kd.S_drew)); exact HO_5.out⟩, ⟨by repeat (first | (with_reducible first | exact HB.out | apply below_alloc | apply pw_below_drewN | apply below_drew1) | exact HB.out)⟩⟩
                                  case round =>
                                    clear H'
                                    try clear c1
                                    try clear p1
                                    try clear q1
                                    try clear hx1
                                    try clear c2
                                    try clear p2
                                    try clear c4
                                    try clear c4b0
                                    try clear c4b1
                                    try clear c5
                                    try clear c5b0
                                    try clear c5b1
                                    try clear p6
                                    try clear c9
                                    try clear c9b0
                                    try clear c11
                                    try clear c11b0
                                    try clear c11b1
                                    try clear c12
                                    try clear c12b0
                                    try clear c12b1
                                    try clear c13
                                    try clear c13b0
                                    try clear c14
                                    try clear c14b0
                                    try clear c15
                                    try clear p15
                                    try clear q15
                                    try clear hx15
                                    try clear hf15
                                    try clear c18
                                    try clear hx18
                                    try clear hf18
                                    try clear c22
                                    try clear c22b0
                                    try clear c23
                                    try clear c25
                                    try clear c25b0
                                    try clear c25b1
                                    try clear hx15_0
                                    try clear hx18_0
                                    try clear p1
                                    try clear p15
                                    try clear p2
                                    try clear p6
                                    try clear q1
                                    try clear q15
                                    obtain ⟨x8_5, x9_5, rfl, rfl, HA, HK5, HO_5, HB⟩ := hrel
                                    cases gk with
                                    | zero => exact absurd HA.out (by simp [spec_feLines.l2])
                                    | succ k5 =>
                                      have H := HA.out
                                      clear HA
                                      simp only [spec_feLines.l2] at H
                                      by_cases c26 : (wrap64 (2 * x9_5)) ≤ x16_1
                                      · rw [if_pos c26] at H
                                        have c26b0 : decide ((wrap64 (2 * x9_5)) ≤ x16_1) = true := decide_eq_true c26
                                        clear c26
                                        by_cases c27 : 0 ≤ x9_5
                                        · rw [if_pos c27] at H
                                          have c27b0 : decide (0 ≤ x9_5) = true := decide_eq_true c27
                                          clear c27
                                          by_cases c28 : x9_5 < (x5_2.length : Int)
                                          · rw [if_pos c28] at H
                                            have c28b0 : decide (x9_5 < (x5_2.length : Int)) = true := decide_eq_true c28
                                            have c28b0x := c28b0
                                            (try simp only [hl5_1] at c28b0x)
                                            (try simp only [hl5_2] at c28b0x)
                                            clear c28
                                            by_cases c29 : 0 ≤ x7_2
                                            · rw [if_pos c29] at H
                                              have c29b0 : decide (0 ≤ x7_2) = true := decide_eq_true c29
                                              clear c29
                                              by_cases c30 : x7_2 < ((rd_L5 x5_2 x9_5).length : Int)
                                              · rw [if_pos c30] at H
                                                have c30b0 : decide (x7_2 < ((rd_L5 x5_2 x9_5).length : Int)) = true := decide_eq_true c30
                                                have c30b0x := c30b0
                                                (try simp only [hl5_1] at c30b0x)
                                                (try simp only [hl5_2] at c30b0x)
                                                clear c30
                                                obtain ⟨ji31, hji31⟩ : ∃ j_ : Int, (wrap64 (x16_1 - x9_5)) = j_ := ⟨_, rfl⟩
                                                replace H : (if 0 ≤ (ji31) then (if (ji31) < (x5_2.length : Int) then (if x7_2 < ((rd_L5 x5_2 (ji31)).length : Int) then ((spec_l1Least.f x8_5 (wrap64 ((rd (rd_L5 x5_2 x9_5) x7_2) + (rd (rd_L5 x5_2 (ji31)) x7_2)))).bind fun t112 => (spec_feLines.l2 k5 a1 x5_2 x16_1 x7_2 t112 (wrap64 (x9_5 + 1)) (y101.length : Int) x16_1)) else (none)) else (none)) else (none)) = some r := by first | (rw [hji31] at H; exact H) | (simp only [hji31] at H ⊢; exact H)
                                                have hji31w : (IntKind.i64.wrap (x16_1 - x9_5)) = ji31 := (i64_w _).trans hji31
                                                by_cases c32 : 0 ≤ (ji31)
                                                · rw [if_pos c32] at H
                                                  have c32b0 : decide (0 ≤ (ji31)) = true := decide_eq_true c32
                                                  clear c32
                                                  by_cases c33 : (ji31) < (x5_2.length : Int)
                                                  · rw [if_pos c33] at H
                                                    have c33b0 : decide ((ji31) < (x5_2.length : Int)) = true := decide_eq_true c33
                                                    have c33b0x := c33b0
                                                    (try simp only [hl5_1] at c33b0x)
                                                    (try simp only [hl5_2] at c33b0x)
                                                    clear c33
                                                    by_cases c34 : x7_2 < ((rd_L5 x5_2 (ji31)).length : Int)
                                                    · rw [if_pos c34] at H
                                                      have c34b0 : decide (x7_2 < ((rd_L5 x5_2 (ji31)).length : Int)) = true := decide_eq_true c34
                                                      have c34b0x := c34b0
                                                      (try simp only [hl5_1] at c34b0x)
                                                      (try simp only [hl5_2] at c34b0x)
                                                      clear c34
                                                      replace H := Option.bind_eq_some_iff.mp H
                                                      obtain ⟨t112, A350, H⟩ := H
                                                      replace H : (spec_feLines.l2 k5 a1 x5_2 x16_1 x7_2 t112 (wrap64 (x9_5 + 1)) (y101.length : Int) x16_1) = some r := H
                                                      have A35 := Aside0.mk A350
                                                      clear A350
                                                      have H' := Aside0.mk H
                                                      clear H
                                                      have p108 : 0 ≤ (x9_5 : Int) := of_decide_eq_true (by first | (with_reducible assumption) | assumption)
                                                      have q108 : x9_5 < (x5_2.length : Int) := of_decide_eq_true (by first | (with_reducible assumption) | assumption)
                                                      obtain ⟨ad108, A108_0, c108_0, e108, hx108_0, hl108_0, hi108_0⟩ := at_L5 (Kd.S_reads' HO_5.out).2.2 x9_5 p108 q108
                                                      obtain rfl : (⟨go15, 0, none⟩ : Addr) = ad108 := (by injection e108)
                                                      obtain ⟨ce108, hce108, hMe108, hcc108⟩ := Kd.S_get HO_5.out [] x9_5 p108 (by first | exact q108 | exact of_decide_eq_true (by first | (with_reducible assumption) | assumption) | (have e_ := (Kd.S_reads' HO_5.out).1; omega))
                                                      obtain ⟨ve108_0, rfl, ge108_0⟩ := hMe108
                                                      have hv108_0 := hcc108 0 _ rfl
                                                      rw [Nat.add_zero, show ((Kd.slice 3 (Kd.int .i64))).sz = 1 from rfl, Nat.mul_one] at hv108_0
                                                      replace hv108_0 := Option.some.inj (hv108_0.symm.trans hx108_0)
                                                      rw [hv108_0] at ge108_0
                                                      have HL108_0 := Aside0.mk (show Kd.R (Kd.int .i64) 3 _ _ _ _ (rd_L5 x5_2 x9_5) from ge108_0)
                                                      clear hv108_0 ge108_0
                                                      have HX108_0 := Aside0.mk hx108_0
                                                      clear hcc108 hce108
                                                      (first | simp only [add_plain] at hx108_0 | simp only [add_at] at hx108_0 | simp only [Addr.add, Nat.zero_add] at hx108_0 | skip)
                                                      have HR108_0 := Aside0.mk hi108_0
                                                      have HC108_0 := Aside0.mk hl108_0
                                                      clear hi108_0 hl108_0
                                                      replace p108 := eq_true p108
                                                      replace q108 := eq_true q108
                                                      have p109 : 0 ≤ (x7_2 : Int) := of_decide_eq_true (by first | (with_reducible assumption) | assumption)
                                                      have q109 : x7_2 < ((rd_L5 x5_2 x9_5).length : Int) := of_decide_eq_true (by first | (with_reducible assumption) | assumption)
                                                      obtain ⟨ad109, e109, hx109_0⟩ := Kd.at_int (by repeat (first | (with_reducible exact HR108_0.out) | (with_reducible refine Kd.C_alloc ?_ _) | (with_reducible refine Kd.C_drewN ?_ _) | (with_reducible refine Kd.C_drew ?_) | exact HR108_0.out)) x7_2 p109 q109
                                                      cases e109
                                                      replace p109 := eq_true p109
                                                      replace q109 := eq_true q109
                                                      have p110 : 0 ≤ ((ji31) : Int) := of_decide_eq_true (by first | (with_reducible assumption) | assumption)
                                                      have q110 : (ji31) < (x5_2.length : Int) := of_decide_eq_true (by first | (with_reducible assumption) | assumption)
                                                      obtain ⟨ad110, A110_0, c110_0, e110, hx110_0, hl110_0, hi110_0⟩ := at_L5 (Kd.S_reads' HO_5.out).2.2 (ji31) p110 q110
                                                      obtain rfl : (⟨go15, 0, none⟩ : Addr) = ad110 := (by injection e110)
                                                      obtain ⟨ce110, hce110, hMe110, hcc110⟩ := Kd.S_get HO_5.out [] (ji31) p110 (by first | exact q110 | exact of_decide_eq_true (by first | (with_reducible assumption) | assumption) | (have e_ := (Kd.S_reads' HO_5.out).1; omega))
                                                      obtain ⟨ve110_0, rfl, ge110_0⟩ := hMe110
                                                      have hv110_0 := hcc110 0 _ rfl
                                                      rw [Nat.add_zero, show ((Kd.slice 3 (Kd.int .i64))).sz = 1 from rfl, Nat.mul_one] at hv110_0
                                                      replace hv110_0 := Option.some.inj (hv110_0.symm.trans hx110_0)
                                                      rw [hv110_0] at ge110_0
                                                      have HL110_0 := Aside0.mk (show Kd.R (Kd.int .i64) 3 _ _ _ _ (rd_L5 x5_2 (ji31)) from ge110_0)
                                                      clear hv110_0 ge110_0
                                                      have HX110_0 := Aside0.mk hx110_0
                                                      clear hcc110 hce110
                                                      (first | simp only [add_plain] at hx110_0 | simp only [add_at] at hx110_0 | simp only [Addr.add, Nat.zero_add] at hx110_0 | skip)
                                                      have HR110_0 := Aside0.mk hi110_0
                                                      have HC110_0 := Aside0.mk hl110_0
                                                      clear hi110_0 hl110_0
                                                      replace p110 := eq_true p110
                                                      replace q110 := eq_true q110
                                                      have p111 : 0 ≤ (x7_2 : Int) := of_decide_eq_true (by first | (with_reducible assumption) | assumption)
                                                      have q111 : x7_2 < ((rd_L5 x5_2 (ji31)).length : Int) := of_decide_eq_true (by first | (with_reducible assumption) | assumption)
                                                      obtain ⟨ad111, e111, hx111_0⟩ := Kd.at_int (by repeat (first | (with_reducible exact HR110_0.out) | (with_reducible refine Kd.C_alloc ?_ _) | (with_reducible refine Kd.C_drewN ?_ _) | (with_reducible refine Kd.C_drew ?_) | exact HR110_0.out)) x7_2 p111 q111
                                                      cases e111
                                                      replace p111 := eq_true p111
                                                      replace q111 := eq_true q111
                                                      go_wp2_with (first | (go_at_call 68; (with_reducible refine (spec_l1Least.calls x8_5 (wrap64 ((rd (rd_L5 x5_2 x9_5) x7_2) + (rd (rd_L5 x5_2 (ji31)) x7_2))) t112 _ A35.out).mono ?_); rintro e w' ⟨rfl, ⟨nd, rfl⟩⟩; (try first | exact ⟨rfl, _, World.drewN_drewN _ _ _⟩ | exact ⟨rfl, _, Eq.trans (World.drewN_drewN _ _ _) (congrArg (World.drewN _) (Nat.add_assoc _ _ _))⟩)))
                                                      repeat (go_quiet (first | (go_at_call 68; (with_reducible refine (spec_l1Least.calls x8_5 (wrap64 ((rd (rd_L5 x5_2 x9_5) x7_2) + (rd (rd_L5 x5_2 (ji31)) x7_2))) t112 _ A35.out).mono ?_); rintro e w' ⟨rfl, ⟨nd, rfl⟩⟩; (try first | exact ⟨rfl, _, World.drewN_drewN _ _ _⟩ | exact ⟨rfl, _, Eq.trans (World.drewN_drewN _ _ _) (congrArg (World.drewN _) (Nat.add_assoc _ _ _))⟩))); try go_wp2_with (first | (go_at_call 68; (with_reducible refine (spec_l1Least.calls x8_5 (wrap64 ((rd (rd_L5 x5_2 x9_5) x7_2) + (rd (rd_L5 x5_2 (ji31)) x7_2))) t112 _ A35.out).mono ?_); rintro e w' ⟨rfl, ⟨nd, rfl⟩⟩; (try first | exact ⟨rfl, _, World.drewN_drewN _ _ _⟩ | exact ⟨rfl, _, Eq.trans (World.drewN_drewN _ _ _) (congrArg (World.drewN _) (Nat.add_assoc _ _ _))⟩))))
                                                      go_roundg k5
                                                      case measure => have := HK1.out; have := HK2.out; have := HJ20.out; have := HJ23.out; have := HK5.out; omega
                                                      case rel => exact ⟨(t112), (wrap64 (x9_5 + 1)), (by first | rfl | (simp; done) | (simp [*]; done)), (by first | rfl | (simp; done) | (simp [*]; done)), H', ⟨by have := HK1.out; have := HK2.out; have := HJ20.out; have := HJ23.out; have := HK5.out; omega⟩, ⟨by (try simp only [hl5_1]); (try simp only [hl5_2]); (with_reducible repeat (first | apply Kd.S_alloc | apply Kd.S_drewN | apply Kd.S_drew)); exact HO_5.out⟩, ⟨by repeat (first | (with_reducible first | exact HB.out | apply below_alloc | apply pw_below_drewN | apply below_drew1) | exact HB.out)⟩⟩
                                                    · rw [if_neg c34] at H
                                                      exact absurd H (by simp)
                                                  · rw [if_neg c33] at H
                                                    exact absurd H (by simp)
                                                · rw [if_neg c32] at H
                                                  exact absurd H (by simp)
                                              · rw [if_neg c30] at H
                                                exact absurd H (by simp)
                                            · rw [if_neg c29] at H
                                              exact absurd H (by simp)
                                          · rw [if_neg c28] at H
                                            exact absurd H (by simp)
                                        · rw [if_neg c27] at H
                                          exact absurd H (by simp)
                                      · rw [if_neg c26] at H
                                        have c26b0 : decide ((wrap64 (2 * x9_5)) ≤ x16_1) = false := decide_eq_false c26
                                        clear c26
                                        have H' := Aside0.mk H
                                        clear H
                                        go_wp2
                                        repeat (go_quiet (fail); try go_wp2)
                                        go_loopg [8, 10] k5 (fun kq v8 v10 w' => ∃ (x8_6 : Int) (x10_6 : Int), v8 = .int .i64 x8_6 ∧ v10 = .int .i64 x10_6 ∧ Aside0 (spec_feLines.l3 kq a1 x5_2 x16_1 x7_2 x8_6 x10_6 (y101.length : Int) x16_1 = some r) ∧ Aside0 (kq ≤ k5) ∧ Aside0 (Kd.S (Kd.slice 3 (Kd.int .i64)) 25 w' w.heap.size (fun _ => True) (.slice (some ⟨go15, 0, none⟩) x5_2.length co8) x5_2) ∧ Aside0 (Below w.heap.size w w'))
                                        case atStart => exact ⟨(x8_5), (1), (by first | rfl | (simp; done) | (simp [*]; done)), (by first | rfl | (simp; done) | (simp [*]; done)), H', ⟨Nat.le_refl _⟩, ⟨by (try simp only [hl5_1]); (try simp only [hl5_2]); (with_reducible repeat (first | apply Kd.S_alloc | apply Kd.S_drewN | apply Kd.S_drew)); exact HO_5.out⟩, ⟨by repeat (first | (with_reducible first | exact HB.out | apply below_alloc | apply pw_below_drewN | apply below_drew1) | exact HB.out)⟩⟩
                                        case round =>
                                          clear H'
                                          try clear c1
                                          try clear p1
                                          try clear q1
                                          try clear hx1
                                          try clear c2
                                          try clear p2
                                          try clear c3
                                          try clear c4
                                          try clear c4b0
                                          try clear c4b1
                                          try clear c5
                                          try clear c5b0
                                          try clear c5b1
                                          try clear p6
                                          try clear c9
                                          try clear c9b0
                                          try clear c10
                                          try clear p10
                                          try clear q10
                                          try clear hx10
                                          try clear c11
                                          try clear c11b0
                                          try clear c11b1
                                          try clear p11
                                          try clear q11
                                          try clear hx11
                                          try clear c12
                                          try clear c12b0
                                          try clear c12b1
                                          try clear c13
                                          try clear c13b0
                                          try clear c14
                                          try clear c14b0
                                          try clear c15
                                          try clear p15
                                          try clear q15
                                          try clear hx15
                                          try clear hf15
                                          try clear c18
                                          try clear hx18
                                          try clear hf18
                                          try clear c22
                                          try clear c22b0
                                          try clear c23
                                          try clear c25
                                          try clear c25b0
                                          try clear c25b1
                                          try clear c26
                                          try clear c26b0
                                          try clear c27
                                          try clear c27b0
                                          try clear c28
                                          try clear c28b0
                                          try clear c29
                                          try clear c29b0
                                          try clear c30
                                          try clear c30b0
                                          try clear c32
                                          try clear c32b0
                                          try clear c33
                                          try clear c33b0
                                          try clear c34
                                          try clear c34b0
                                          try clear hx108_0
                                          try clear hx109_0
                                          try clear hx110_0
                                          try clear hx111_0
                                          try clear hx15_0
                                          try clear hx18_0
                                          try clear p1
                                          try clear p108
                                          try clear p109
                                          try clear p110
                                          try clear p111
                                          try clear p15
                                          try clear p2
                                          try clear p6
                                          try clear q1
                                          try clear q108
                                          try clear q109
                                          try clear q110
                                          try clear q111
                                          try clear q15
                                          obtain ⟨x8_6, x10_6, rfl, rfl, HA, HK6, HO_5, HB⟩ := hrel
                                          cases gk with
                                          | zero => exact absurd HA.out (by simp [spec_feLines.l3])
                                          | succ k6 =>
                                            have H := HA.out
                                            clear HA
                                            simp only [spec_feLines.l3] at H
                                            by_cases c36 : (wrap64 (2 * x10_6)) ≤ x7_2
                                            · rw [if_pos c36] at H
                                              have c36b0 : decide ((wrap64 (2 * x10_6)) ≤ x7_2) = true := decide_eq_true c36
                                              clear c36
                                              by_cases c37 : 0 ≤ x16_1
                                              · rw [if_pos c37] at H
                                                have c37b0 : decide (0 ≤ x16_1) = true := decide_eq_true c37
                                                clear c37
                                                by_cases c38 : x16_1 < (x5_2.length : Int)
                                                · rw [if_pos c38] at H
                                                  have c38b0 : decide (x16_1 < (x5_2.length : Int)) = true := decide_eq_true c38
                                                  have c38b0x := c38b0
                                                  (try simp only [hl5_1] at c38b0x)
                                                  (try simp only [hl5_2] at c38b0x)
                                                  clear c38
                                                  by_cases c39 : 0 ≤ x10_6
                                                  · rw [if_pos c39] at H
                                                    have c39b0 : decide (0 ≤ x10_6) = true := decide_eq_true c39
                                                    clear c39
                                                    by_cases c40 : x10_6 < ((rd_L5 x5_2 x16_1).length : Int)
                                                    · rw [if_pos c40] at H
                                                      have c40b0 : decide (x10_6 < ((rd_L5 x5_2 x16_1).length : Int)) = true := decide_eq_true c40
                                                      have c40b0x := c40b0
                                                      (try simp only [hl5_1] at c40b0x)
                                                      (try simp only [hl5_2] at c40b0x)
                                                      clear c40
                                                      obtain ⟨ji41, hji41⟩ : ∃ j_ : Int, (wrap64 (x7_2 - x10_6)) = j_ := ⟨_, rfl⟩
                                                      replace H : (if 0 ≤ (ji41) then (if (ji41) < ((rd_L5 x5_2 x16_1).length : Int) then ((spec_l1Least.f x8_6 (wrap64 ((rd (rd_L5 x5_2 x16_1) x10_6) + (rd (rd_L5 x5_2 x16_1) (ji41))))).bind fun t117 => (spec_feLines.l3 k6 a1 x5_2 x16_1 x7_2 t117 (wrap64 (x10_6 + 1)) (y101.length : Int) x16_1)) else (none)) else (none)) = some r := by first | (rw [hji41] at H; exact H) | (simp only [hji41] at H ⊢; exact H)
                                                      have hji41w : (IntKind.i64.wrap (x7_2 - x10_6)) = ji41 := (i64_w _).trans hji41
                                                      by_cases c42 : 0 ≤ (ji41)
                                                      · rw [if_pos c42] at H
                                                        have c42b0 : decide (0 ≤ (ji41)) = true := decide_eq_true c42
                                                        clear c42
                                                        by_cases c43 : (ji41) < ((rd_L5 x5_2 x16_1).length : Int)
                                                        · rw [if_pos c43] at H
                                                          have c43b0 : decide ((ji41) < ((rd_L5 x5_2 x16_1).length : Int)) = true := decide_eq_true c43
                                                          have c43b0x := c43b0
                                                          (try simp only [hl5_1] at c43b0x)
                                                          (try simp only [hl5_2] at c43b0x)
                                                          clear c43
                                                          replace H := Option.bind_eq_some_iff.mp H
                                                          obtain ⟨t117, A440, H⟩ := H
                                                          replace H : (spec_feLines.l3 k6 a1 x5_2 x16_1 x7_2 t117 (wrap64 (x10_6 + 1)) (y101.length : Int) x16_1) = some r := H
                                                          have A44 := Aside0.mk A440
                                                          clear A440
                                                          have H' := Aside0.mk H
                                                          clear H
                                                          have p113 : 0 ≤ (x16_1 : Int) := of_decide_eq_true (by first | (with_reducible assumption) | assumption)
                                                          have q113 : x16_1 < (x5_2.length : Int) := of_decide_eq_true (by first | (with_reducible assumption) | assumption)
                                                          obtain ⟨ad113, A113_0, c113_0, e113, hx113_0, hl113_0, hi113_0⟩ := at_L5 (Kd.S_reads' HO_5.out).2.2 x16_1 p113 q113
                                                          obtain rfl : (⟨go15, 0, none⟩ : Addr) = ad113 := (by injection e113)
                                                          obtain ⟨ce113, hce113, hMe113, hcc113⟩ := Kd.S_get HO_5.out [] x16_1 p113 (by first | exact q113 | exact of_decide_eq_true (by first | (with_reducible assumption) | assumption) | (have e_ := (Kd.S_reads' HO_5.out).1; omega))
                                                          obtain ⟨ve113_0, rfl, ge113_0⟩ := hMe113
                                                          have hv113_0 := hcc113 0 _ rfl
                                                          rw [Nat.add_zero, show ((Kd.slice 3 (Kd.int .i64))).sz = 1 from rfl, Nat.mul_one] at hv113_0
                                                          replace hv113_0 := Option.some.inj (hv113_0.symm.trans hx113_0)
                                                          rw [hv113_0] at ge113_0
                                                          have HL113_0 := Aside0.mk (show Kd.R (Kd.int .i64) 3 _ _ _ _ (rd_L5 x5_2 x16_1) from ge113_0)
                                                          clear hv113_0 ge113_0
                                                          have HX113_0 := Aside0.mk hx113_0
                                                          clear hcc113 hce113
                                                          (first | simp only [add_plain] at hx113_0 | simp only [add_at] at hx113_0 | simp only [Addr.add, Nat.zero_add] at hx113_0 | skip)
                                                          have HR113_0 := Aside0.mk hi113_0
                                                          have HC113_0 := Aside0.mk hl113_0
                                                          clear hi113_0 hl113_0
                                                          replace p113 := eq_true p113
                                                          replace q113 := eq_true q113
                                                          have p114 : 0 ≤ (x10_6 : Int) := of_decide_eq_true (by first | (with_reducible assumption) | assumption)
                                                          have q114 : x10_6 < ((rd_L5 x5_2 x16_1).length : Int) := of_decide_eq_true (by first | (with_reducible assumption) | assumption)
                                                          obtain ⟨ad114, e114, hx114_0⟩ := Kd.at_int (by repeat (first | (with_reducible exact HR113_0.out) | (with_reducible refine Kd.C_alloc ?_ _) | (with_reducible refine Kd.C_drewN ?_ _) | (with_reducible refine Kd.C_drew ?_) | exact HR113_0.out)) x10_6 p114 q114
                                                          cases e114
                                                          replace p114 := eq_true p114
                                                          replace q114 := eq_true q114
                                                          have p115 : 0 ≤ (x16_1 : Int) := of_decide_eq_true (by first | (with_reducible assumption) | assumption)
                                                          have q115 : x16_1 < (x5_2.length : Int) := of_decide_eq_true (by first | (with_reducible assumption) | assumption)
                                                          obtain ⟨ad115, A115_0, c115_0, e115, hx115_0, hl115_0, hi115_0⟩ := at_L5 (Kd.S_reads' HO_5.out).2.2 x16_1 p115 q115
                                                          obtain rfl : (⟨go15, 0, none⟩ : Addr) = ad115 := (by injection e115)
                                                          obtain ⟨ce115, hce115, hMe115, hcc115⟩ := Kd.S_get HO_5.out [] x16_1 p115 (by first | exact q115 | exact of_decide_eq_true (by first | (with_reducible assumption) | assumption) | (have e_ := (Kd.S_reads' HO_5.out).1; omega))
                                                          obtain ⟨ve115_0, rfl, ge115_0⟩ := hMe115
                                                          have hv115_0 := hcc115 0 _ rfl
                                                          rw [Nat.add_zero, show ((Kd.slice 3 (Kd.int .i64))).sz = 1 from rfl, Nat.mul_one] at hv115_0
                                                          replace hv115_0 := Option.some.inj (hv115_0.symm.trans hx115_0)
                                                          rw [hv115_0] at ge115_0
                                                          have HL115_0 := Aside0.mk (show Kd.R (Kd.int .i64) 3 _ _ _ _ (rd_L5 x5_2 x16_1) from ge115_0)
                                                          clear hv115_0 ge115_0
                                                          have HX115_0 := Aside0.mk hx115_0
                                                          clear hcc115 hce115
                                                          (first | simp only [add_plain] at hx115_0 | simp only [add_at] at hx115_0 | simp only [Addr.add, Nat.zero_add] at hx115_0 | skip)
                                                          have HR115_0 := Aside0.mk hi115_0
                                                          have HC115_0 := Aside0.mk hl115_0
                                                          clear hi115_0 hl115_0
                                                          replace p115 := eq_true p115
                                                          replace q115 := eq_true q115
                                                          have ea_ := Option.some.inj (hx113_0.symm.trans hx115_0)
                                                          injection ea_ with ea_ en_ ec_
                                                          subst ea_
                                                          subst ec_
                                                          clear en_
                                                          have p116 : 0 ≤ ((ji41) : Int) := of_decide_eq_true (by first | (with_reducible assumption) | assumption)
                                                          have q116 : (ji41) < ((rd_L5 x5_2 x16_1).length : Int) := of_decide_eq_true (by first | (with_reducible assumption) | assumption)
                                                          obtain ⟨ad116, e116, hx116_0⟩ := Kd.at_int (by repeat (first | (with_reducible exact HR115_0.out) | (with_reducible refine Kd.C_alloc ?_ _) | (with_reducible refine Kd.C_drewN ?_ _) | (with_reducible refine Kd.C_drew ?_) | exact HR115_0.out)) (ji41) p116 q116
                                                          cases e116
                                                          replace p116 := eq_true p116
                                                          replace q116 := eq_true q116
                                                          go_wp2_with (first | (go_at_call 68; (with_reducible refine (spec_l1Least.calls x8_6 (wrap64 ((rd (rd_L5 x5_2 x16_1) x10_6) + (rd (rd_L5 x5_2 x16_1) (ji41)))) t117 _ A44.out).mono ?_); rintro e w' ⟨rfl, ⟨nd, rfl⟩⟩; (try first | exact ⟨rfl, _, World.drewN_drewN _ _ _⟩ | exact ⟨rfl, _, Eq.trans (World.drewN_drewN _ _ _) (congrArg (World.drewN _) (Nat.add_assoc _ _ _))⟩)))
                                                          repeat (go_quiet (first | (go_at_call 68; (with_reducible refine (spec_l1Least.calls x8_6 (wrap64 ((rd (rd_L5 x5_2 x16_1) x10_6) + (rd (rd_L5 x5_2 x16_1) (ji41)))) t117 _ A44.out).mono ?_); rintro e w' ⟨rfl, ⟨nd, rfl⟩⟩; (try first | exact ⟨rfl, _, World.drewN_drewN _ _ _⟩ | exact ⟨rfl, _, Eq.trans (World.drewN_drewN _ _ _) (congrArg (World.drewN _) (Nat.add_assoc _ _ _))⟩))); try go_wp2_with (first | (go_at_call 68; (with_reducible refine (spec_l1Least.calls x8_6 (wrap64 ((rd (rd_L5 x5_2 x16_1) x10_6) + (rd (rd_L5 x5_2 x16_1) (ji41)))) t117 _ A44.out).mono ?_); rintro e w' ⟨rfl, ⟨nd, rfl⟩⟩; (try first | exact ⟨rfl, _, World.drewN_drewN _ _ _⟩ | exact ⟨rfl, _, Eq.trans (World.drewN_drewN _ _ _) (congrArg (World.drewN _) (Nat.add_assoc _ _ _))⟩))))
                                                          go_roundg k6
                                                          case measure => have := HK1.out; have := HK2.out; have := HJ20.out; have := HJ23.out; have := HK5.out; have := HK6.out; omega
                                                          case rel => exact ⟨(t117), (wrap64 (x10_6 + 1)), (by first | rfl | (simp; done) | (simp [*]; done)), (by first | rfl | (simp; done) | (simp [*]; done)), H', ⟨by have := HK1.out; have := HK2.out; have := HJ20.out; have := HJ23.out; have := HK5.out; have := HK6.out; omega⟩, ⟨by (try simp only [hl5_1]); (try simp only [hl5_2]); (with_reducible repeat (first | apply Kd.S_alloc | apply Kd.S_drewN | apply Kd.S_drew)); exact HO_5.out⟩, ⟨by repeat (first | (with_reducible first | exact HB.out | apply below_alloc | apply pw_below_drewN | apply below_drew1) | exact HB.out)⟩⟩
                                                        · rw [if_neg c43] at H
                                                          exact absurd H (by simp)
                                                      · rw [if_neg c42] at H
                                                        exact absurd H (by simp)
                                                    · rw [if_neg c40] at H
                                                      exact absurd H (by simp)
                                                  · rw [if_neg c39] at H
                                                    exact absurd H (by simp)
                                                · rw [if_neg c38] at H
                                                  exact absurd H (by simp)
                                              · rw [if_neg c37] at H
                                                exact absurd H (by simp)
                                            · rw [if_neg c36] at H
                                              have c36b0 : decide ((wrap64 (2 * x10_6)) ≤ x7_2) = false := decide_eq_false c36
                                              clear c36
                                              by_cases c45 : 0 ≤ x16_1
                                              · rw [if_pos c45] at H
                                                have c45b0 : decide (0 ≤ x16_1) = true := decide_eq_true c45
                                                clear c45
                                                by_cases c46 : x16_1 < (x5_2.length : Int)
                                                · rw [if_pos c46] at H
                                                  have c46b0 : decide (x16_1 < (x5_2.length : Int)) = true := decide_eq_true c46
                                                  have c46b0x := c46b0
                                                  (try simp only [hl5_1] at c46b0x)
                                                  (try simp only [hl5_2] at c46b0x)
                                                  clear c46
                                                  by_cases c47 : 0 ≤ x7_2
                                                  · rw [if_pos c47] at H
                                                    have c47b0 : decide (0 ≤ x7_2) = true := decide_eq_true c47
                                                    clear c47
                                                    by_cases c48 : x7_2 < ((rd_L5 x5_2 x16_1).length : Int)
                                                    · rw [if_pos c48] at H
                                                      have c48b0 : decide (x7_2 < ((rd_L5 x5_2 x16_1).length : Int)) = true := decide_eq_true c48
                                                      have c48b0x := c48b0
                                                      (try simp only [hl5_1] at c48b0x)
                                                      (try simp only [hl5_2] at c48b0x)
                                                      clear c48
                                                      obtain ⟨y119, hy119⟩ : ∃ y_ : List Int, y_ = ((rd_L5 x5_2 x16_1).set (x7_2 : Int).toNat x8_6) := ⟨_, rfl⟩
                                                      replace H : (spec_feLines.l1 k6 a1 (x5_2.set (x16_1 : Int).toNat y119) x16_1 (wrap64 (x7_2 + 1)) (y101.length : Int) x16_1) = some r := by first | (rw [hy119]; with_reducible exact H) | (have H2_ := (Option.bind_some _ _).symm.trans H; rw [hy119]; with_reducible exact H2_) | (have H2_ := (Option.bind_some _ _).symm.trans H; with_reducible exact H2_) | with_reducible exact H | (rw [hy119]; exact H) | exact H
                                                      have Ny119 := Aside0.mk hy119
                                                      clear hy119
                                                      obtain ⟨y121, hy121⟩ : ∃ y_ : List (List Int), y_ = (x5_2.set (x16_1 : Int).toNat y119) := ⟨_, rfl⟩
                                                      replace H : (spec_feLines.l1 k6 a1 y121 x16_1 (wrap64 (x7_2 + 1)) (y101.length : Int) x16_1) = some r := by first | (rw [hy121]; with_reducible exact H) | (have H2_ := (Option.bind_some _ _).symm.trans H; rw [hy121]; with_reducible exact H2_) | (have H2_ := (Option.bind_some _ _).symm.trans H; with_reducible exact H2_) | with_reducible exact H | (rw [hy121]; exact H) | exact H
                                                      have Ny121 := Aside0.mk hy121
                                                      clear hy121
                                                      have H' := Aside0.mk H
                                                      clear H
                                                      have p118 : 0 ≤ (x16_1 : Int) := of_decide_eq_true (by first | (with_reducible assumption) | assumption)
                                                      have q118 : x16_1 < (x5_2.length : Int) := of_decide_eq_true (by first | (with_reducible assumption) | assumption)
                                                      obtain ⟨ad118, A118_0, c118_0, e118, hx118_0, hl118_0, hi118_0⟩ := at_L5 (Kd.S_reads' HO_5.out).2.2 x16_1 p118 q118
                                                      obtain rfl : (⟨go15, 0, none⟩ : Addr) = ad118 := (by injection e118)
                                                      obtain ⟨ce118, hce118, hMe118, hcc118⟩ := Kd.S_get HO_5.out [] x16_1 p118 (by first | exact q118 | exact of_decide_eq_true (by first | (with_reducible assumption) | assumption) | (have e_ := (Kd.S_reads' HO_5.out).1; omega))
                                                      obtain ⟨ve118_0, rfl, ge118_0⟩ := hMe118
                                                      have hv118_0 := hcc118 0 _ rfl
                                                      rw [Nat.add_zero, show ((Kd.slice 3 (Kd.int .i64))).sz = 1 from rfl, Nat.mul_one] at hv118_0
                                                      replace hv118_0 := Option.some.inj (hv118_0.symm.trans hx118_0)
                                                      rw [hv118_0] at ge118_0
                                                      have HL118_0 := Aside0.mk (show Kd.R (Kd.int .i64) 3 _ _ _ _ (rd_L5 x5_2 x16_1) from ge118_0)
                                                      clear hv118_0 ge118_0
                                                      have HX118_0 := Aside0.mk hx118_0
                                                      clear hcc118 hce118
                                                      (first | simp only [add_plain] at hx118_0 | simp only [add_at] at hx118_0 | simp only [Addr.add, Nat.zero_add] at hx118_0 | skip)
                                                      have HR118_0 := Aside0.mk hi118_0
                                                      have HC118_0 := Aside0.mk hl118_0
                                                      clear hi118_0 hl118_0
                                                      replace p118 := eq_true p118
                                                      replace q118 := eq_true q118
                                                      have p49 : 0 ≤ (x7_2 : Int) := of_decide_eq_true (by first | (with_reducible assumption) | assumption)
                                                      have q49 : (x7_2 : Int) < (((rd_L5 x5_2 x16_1).length : Int) : Int) := of_decide_eq_true (by first | (with_reducible assumption) | assumption)
                                                      obtain ⟨go49, co49, eo49, gb49, gl49, cl49, HG49⟩ := Kd.R_form HL118_0.out (by omega)
                                                      (first | cases eo49 | (injection eo49 with ea_ en_ ec_; (first | subst ea_ | (injection ea_ with ea_; subst ea_)); subst ec_; clear en_))
                                                      have GB49 := Aside0.mk gb49
                                                      have GG49 := Aside0.mk HG49
                                                      clear gb49 gl49 HG49
                                                      obtain ⟨hx49_0, hf49_0⟩ := Kd.R_celln 0 HL118_0.out (x7_2 : Int) p49 q49
                                                      replace p49 := eq_true p49
                                                      replace q49 := eq_true q49
                                                      have hq50 : (x16_1 : Int) < (x5_2.length : Int) := (by have h_ : (x16_1 : Int) < ((x5_2.length : Int) : Int) := of_decide_eq_true (by first | (with_reducible assumption) | assumption); first | exact h_ | (have e_ := (Kd.S_reads' HO_5.out).1; omega) | simpa only [List.length_set, List.length_set] using h_)
                                                      obtain ⟨oki50, ce50, hcl50, hM50, hcc50, hok50, hbk50⟩ := Kd.S_borrow HO_5.out [] (x16_1 : Int) (of_decide_eq_true (by first | (with_reducible assumption) | assumption)) hq50
                                                      obtain ⟨ve50_0, rfl, ge50_0⟩ := hM50
                                                      have hv50 := hcc50 0 _ rfl
                                                      rw [Nat.add_zero, show ((Kd.slice 3 (Kd.int .i64))).sz = 1 from rfl, Nat.mul_one] at hv50
                                                      replace hv50 := Option.some.inj (hv50.symm.trans HX118_0.out)
                                                      subst hv50
                                                      clear hcc50 hcl50
                                                      replace ge50_0 := (show Kd.R (Kd.int .i64) 3 _ _ _ _ (rd_L5 x5_2 x16_1) from ge50_0)
                                                      have HP50 := Kd.R_putg ge50_0 (x7_2 : Int) x8_6
                                                      go_wp2_with (first | ((with_reducible refine gate_store (t := 3) (p := 96) rfl ?_); (try (rw [drewN_self wr]; generalize hq_ : World.drewN wr _ = wr; have n0_ := Aside0.mk (Kd.S_at hq_ HO_5.out); have n1_ := Aside0.mk (Kd.R_at hq_ HL122.out); have n2_ := Aside0.mk (below_at hq_ HB.out); clear hq_ HO_5 HL122 HB; have HO_5 := n0_; have HL122 := n1_; have HB := n2_; clear n0_ n1_ n2_; (try (have hq50 : (x16_1 : Int) < (x5_2.length : Int) := (by have h_ : (x16_1 : Int) < ((x5_2.length : Int) : Int) := of_decide_eq_true (by first | (with_reducible assumption) | assumption); first | exact h_ | (have e_ := (Kd.S_reads' HO_5.out).1; omega) | simpa only [List.length_set, List.length_set] using h_))); (try (obtain ⟨oki50, ce50, hcl50, hM50, hcc50, hok50, hbk50⟩ := Kd.S_borrow HO_5.out [] (x16_1 : Int) (of_decide_eq_true (by first | (with_reducible assumption) | assumption)) hq50)); (try (obtain ⟨ve50_0, rfl, ge50_0⟩ := hM50)); (try (have hv50 := hcc50 0 _ rfl)); (try (rw [Nat.add_zero, show ((Kd.slice 3 (Kd.int .i64))).sz = 1 from rfl, Nat.mul_one] at hv50)); (try (replace hv50 := Option.some.inj (hv50.symm.trans HX118_0.out))); (try (subst hv50)); (try (clear hcc50 hcl50)); (try (replace ge50_0 := (show Kd.R (Kd.int .i64) 3 _ _ _ _ (rd_L5 x5_2 x16_1) from ge50_0))); (try (have HP50 := Kd.R_putg ge50_0 (x7_2 : Int) x8_6)))); refine store_event (t := 3) (p := 96) (v := ?vo_w51) (w1 := (wr.setCell ⟨go49, (x7_2 : Int).toNat, none⟩ (.int .i64 x8_6))) ?hg ?ho ?hn ?hr ?_; (case ho => rfl); (case hg => rfl); (case hn => rfl); (case hr => first | (go_simp; done) | (go_simp; rfl)); intro w51 hw; have hg : wr.grownBy w51 (some go49) := (by rw [hw]; exact HP50.2); have hz_ : Kd.R (Kd.int .i64) 3 w51 w.heap.size oki50 (.slice (some ⟨go49, 0, none⟩) (rd_L5 x5_2 x16_1).length c118_0) y119 := (by rw [hw, Ny119.out]; exact HP50.1); have hp_ : Kd.S (Kd.slice 3 (Kd.int .i64)) 25 w51 w.heap.size (fun _ => True) (.slice (some ⟨go15, 0, none⟩) x5_2.length co8) y121 := (by rw [Ny121.out]; exact hbk50 hg (fun k_ e_ => by injection e_ with e_; subst e_; exact ge50_0.1 _ rfl) (Kd.M_row hz_)); have hm_ := Kd.R_mono hz_ hok50; clear HP50 hbk50; have n0_ := Aside0.mk (hp_); have n1_ := Aside0.mk ((by rw [hw]; exact below_set (HB.out) GB49.out : Below w.heap.size w w51)); have n2_ := Aside0.mk (hm_); have n3_ := Aside0.mk ((Kd.R_reads' hm_).2.1); clear HO_5; clear HB; clear HL118_0; have HO_5 := n0_; have HB := n1_; have HL122 := n2_; have HC120 := n3_; clear n0_ n1_ n2_ n3_; clear hg hw hp_ hz_ hm_ hok50))
                                                      repeat (go_quiet (first | ((with_reducible refine gate_store (t := 3) (p := 96) rfl ?_); (try (rw [drewN_self wr]; generalize hq_ : World.drewN wr _ = wr; have n0_ := Aside0.mk (Kd.S_at hq_ HO_5.out); have n1_ := Aside0.mk (Kd.R_at hq_ HL122.out); have n2_ := Aside0.mk (below_at hq_ HB.out); clear hq_ HO_5 HL122 HB; have HO_5 := n0_; have HL122 := n1_; have HB := n2_; clear n0_ n1_ n2_; (try (have hq50 : (x16_1 : Int) < (x5_2.length : Int) := (by have h_ : (x16_1 : Int) < ((x5_2.length : Int) : Int) := of_decide_eq_true (by first | (with_reducible assumption) | assumption); first | exact h_ | (have e_ := (Kd.S_reads' HO_5.out).1; omega) | simpa only [List.length_set, List.length_set] using h_))); (try (obtain ⟨oki50, ce50, hcl50, hM50, hcc50, hok50, hbk50⟩ := Kd.S_borrow HO_5.out [] (x16_1 : Int) (of_decide_eq_true (by first | (with_reducible assumption) | assumption)) hq50)); (try (obtain ⟨ve50_0, rfl, ge50_0⟩ := hM50)); (try (have hv50 := hcc50 0 _ rfl)); (try (rw [Nat.add_zero, show ((Kd.slice 3 (Kd.int .i64))).sz = 1 from rfl, Nat.mul_one] at hv50)); (try (replace hv50 := Option.some.inj (hv50.symm.trans HX118_0.out))); (try (subst hv50)); (try (clear hcc50 hcl50)); (try (replace ge50_0 := (show Kd.R (Kd.int .i64) 3 _ _ _ _ (rd_L5 x5_2 x16_1) from ge50_0))); (try (have HP50 := Kd.R_putg ge50_0 (x7_2 : Int) x8_6)))); refine store_event (t := 3) (p := 96) (v := ?vo_w51) (w1 := (wr.setCell ⟨go49, (x7_2 : Int).toNat, none⟩ (.int .i64 x8_6))) ?hg ?ho ?hn ?hr ?_; (case ho => rfl); (case hg => rfl); (case hn => rfl); (case hr => first | (go_simp; done) | (go_simp; rfl)); intro w51 hw; have hg : wr.grownBy w51 (some go49) := (by rw [hw]; exact HP50.2); have hz_ : Kd.R (Kd.int .i64) 3 w51 w.heap.size oki50 (.slice (some ⟨go49, 0, none⟩) (rd_L5 x5_2 x16_1).length c118_0) y119 := (by rw [hw, Ny119.out]; exact HP50.1); have hp_ : Kd.S (Kd.slice 3 (Kd.int .i64)) 25 w51 w.heap.size (fun _ => True) (.slice (some ⟨go15, 0, none⟩) x5_2.length co8) y121 := (by rw [Ny121.out]; exact hbk50 hg (fun k_ e_ => by injection e_ with e_; subst e_; exact ge50_0.1 _ rfl) (Kd.M_row hz_)); have hm_ := Kd.R_mono hz_ hok50; clear HP50 hbk50; have n0_ := Aside0.mk (hp_); have n1_ := Aside0.mk ((by rw [hw]; exact below_set (HB.out) GB49.out : Below w.heap.size w w51)); have n2_ := Aside0.mk (hm_); have n3_ := Aside0.mk ((Kd.R_reads' hm_).2.1); clear HO_5; clear HB; clear HL118_0; have HO_5 := n0_; have HB := n1_; have HL122 := n2_; have HC120 := n3_; clear n0_ n1_ n2_ n3_; clear hg hw hp_ hz_ hm_ hok50)); try go_wp2_with (first | ((with_reducible refine gate_store (t := 3) (p := 96) rfl ?_); (try (rw [drewN_self wr]; generalize hq_ : World.drewN wr _ = wr; have n0_ := Aside0.mk (Kd.S_at hq_ HO_5.out); have n1_ := Aside0.mk (Kd.R_at hq_ HL122.out); have n2_ := Aside0.mk (below_at hq_ HB.out); clear hq_ HO_5 HL122 HB; have HO_5 := n0_; have HL122 := n1_; have HB := n2_; clear n0_ n1_ n2_; (try (have hq50 : (x16_1 : Int) < (x5_2.length : Int) := (by have h_ : (x16_1 : Int) < ((x5_2.length : Int) : Int) := of_decide_eq_true (by first | (with_reducible assumption) | assumption); first | exact h_ | (have e_ := (Kd.S_reads' HO_5.out).1; omega) | simpa only [List.length_set, List.length_set] using h_))); (try (obtain ⟨oki50, ce50, hcl50, hM50, hcc50, hok50, hbk50⟩ := Kd.S_borrow HO_5.out [] (x16_1 : Int) (of_decide_eq_true (by first | (with_reducible assumption) | assumption)) hq50)); (try (obtain ⟨ve50_0, rfl, ge50_0⟩ := hM50)); (try (have hv50 := hcc50 0 _ rfl)); (try (rw [Nat.add_zero, show ((Kd.slice 3 (Kd.int .i64))).sz = 1 from rfl, Nat.mul_one] at hv50)); (try (replace hv50 := Option.some.inj (hv50.symm.trans HX118_0.out))); (try (subst hv50)); (try (clear hcc50 hcl50)); (try (replace ge50_0 := (show Kd.R (Kd.int .i64) 3 _ _ _ _ (rd_L5 x5_2 x16_1) from ge50_0))); (try (have HP50 := Kd.R_putg ge50_0 (x7_2 : Int) x8_6)))); refine store_event (t := 3) (p := 96) (v := ?vo_w51) (w1 := (wr.setCell ⟨go49, (x7_2 : Int).toNat, none⟩ (.int .i64 x8_6))) ?hg ?ho ?hn ?hr ?_; (case ho => rfl); (case hg => rfl); (case hn => rfl); (case hr => first | (go_simp; done) | (go_simp; rfl)); intro w51 hw; have hg : wr.grownBy w51 (some go49) := (by rw [hw]; exact HP50.2); have hz_ : Kd.R (Kd.int .i64) 3 w51 w.heap.size oki50 (.slice (some ⟨go49, 0, none⟩) (rd_L5 x5_2 x16_1).length c118_0) y119 := (by rw [hw, Ny119.out]; exact HP50.1); have hp_ : Kd.S (Kd.slice 3 (Kd.int .i64)) 25 w51 w.heap.size (fun _ => True) (.slice (some ⟨go15, 0, none⟩) x5_2.length co8) y121 := (by rw [Ny121.out]; exact hbk50 hg (fun k_ e_ => by injection e_ with e_; subst e_; exact ge50_0.1 _ rfl) (Kd.M_row hz_)); have hm_ := Kd.R_mono hz_ hok50; clear HP50 hbk50; have n0_ := Aside0.mk (hp_); have n1_ := Aside0.mk ((by rw [hw]; exact below_set (HB.out) GB49.out : Below w.heap.size w w51)); have n2_ := Aside0.mk (hm_); have n3_ := Aside0.mk ((Kd.R_reads' hm_).2.1); clear HO_5; clear HB; clear HL118_0; have HO_5 := n0_; have HB := n1_; have HL122 := n2_; have HC120 := n3_; clear n0_ n1_ n2_ n3_; clear hg hw hp_ hz_ hm_ hok50)))
                                                      (try simp only [← hl5_2])
                                                      go_roundg k6
                                                      case measure => have := HK1.out; have := HK2.out; have := HJ20.out; have := HJ23.out; have := HK5.out; have := HK6.out; omega
                                                      case rel => exact ⟨(y121), (wrap64 (x7_2 + 1)), (by first | rfl | (simp; done) | (simp [*]; done)), H', ⟨by have := HK1.out; have := HK2.out; have := HJ20.out; have := HJ23.out; have := HK5.out; have := HK6.out; omega⟩, ⟨by (try simp only [hl5_1]); (try simp only [hl5_2]); (with_reducible repeat (first | apply Kd.S_alloc | apply Kd.S_drewN | apply Kd.S_drew)); exact HO_5.out⟩, ⟨by repeat (first | (with_reducible first | exact HB.out | apply below_alloc | apply pw_below_drewN | apply below_drew1) | exact HB.out)⟩⟩
                                                    · rw [if_neg c48] at H
                                                      exact absurd H (by simp)
                                                  · rw [if_neg c47] at H
                                                    exact absurd H (by simp)
                                                · rw [if_neg c46] at H
                                                  exact absurd H (by simp)
                                              · rw [if_neg c45] at H
                                                exact absurd H (by simp)
                            · replace c23 := Bool.eq_false_iff.mpr c23
                              subst c23
                              have H1 : (spec_feLines.l0 kj20 a1 x5_2 (y101.length : Int) (wrap64 (x16_1 + 1))) = some r := by rw [if_neg (show ¬ (false = true) by decide)] at H; exact H
                              clear H
                              have H := H1
                              clear H1
                              have H' := Aside0.mk H
                              clear H
                              go_wp2
                              repeat (go_quiet (fail); try go_wp2)
                              (try simp only [← hl5_1, ← hl5_2])
                              go_roundg kj20
                              case measure => have := HK1.out; have := HK2.out; have := HJ20.out; omega
                              case rel => exact ⟨(x5_2), (wrap64 (x16_1 + 1)), (by first | rfl | (simp; done) | (simp [*]; done)), H', ⟨by have := HK1.out; have := HK2.out; have := HJ20.out; omega⟩, ⟨by (try simp only [hl5_1]); (try simp only [hl5_2]); (with_reducible repeat (first | apply Kd.S_alloc | apply Kd.S_drewN | apply Kd.S_drew)); exact HO_5.out⟩, ⟨by repeat (first | (with_reducible first | exact HB.out | apply below_alloc | apply pw_below_drewN | apply below_drew1) | exact HB.out)⟩⟩
                  · rw [if_neg c14] at H
                    exact absurd H (by simp)
                · rw [if_neg c13] at H
                  exact absurd H (by simp)
              · rw [if_neg c12] at H
                exact absurd H (by simp)
            · rw [if_neg c11] at H
              exact absurd H (by simp)
          · rw [if_neg c9] at H
            have c9b0 : decide (x16_1 < (y101.length : Int)) = false := decide_eq_false c9
            have c9b0x := c9b0
            (try simp only [hl5_1] at c9b0x)
            (try simp only [hl5_2] at c9b0x)
            clear c9
            obtain rfl := Option.some.inj H
            go_wp2
            repeat (go_quiet (fail); try go_wp2)
            go_ret
            exact ⟨_, by first | rfl | (simp [errW_none, errW_some] <;> rfl) | (simp only [← hji3]; first | rfl | (simp [errW_none, errW_some] <;> rfl)) | (simp [*, errW_none, errW_some] <;> rfl), by (with_reducible repeat (first | apply Kd.S_alloc | apply Kd.S_drewN | apply Kd.S_drew)); exact HO_5.out, by repeat (first | (with_reducible first | exact HB.out | apply below_alloc | apply pw_below_drewN | apply below_drew1) | exact HB.out)⟩
    · rw [if_neg c5] at H
      exact absurd H (by simp)
  · rw [if_neg c4] at H
    exact absurd H (by simp)

end Go.Proofs.Ytfmhcgjmgaefcab.P

namespace Go.Proofs.Ytfmhcgjmgaefcab.P
open Go.RowKit Go.Proofs.YtfmhcgjmgaefcabW.PrintWords Go.Proofs.YtfmhcgjmgaefcabW.PrintLast Go.Proofs.YtfmhcgjmgaefcabW.PrintMore
attribute [local go_sem] max2_int min2_int max_two min_two max_three min_three max_four min_four
set_option linter.unusedVariables false
set_option linter.unusedSimpArgs false

/-! ### spec_LinesLose: function 22 -/
open Go.Proofs.Ytfmhcgjmgaefcab.T Go.Proofs.Ytfmhcgjmgaefcab.Aid
def spec_LinesLose.f (k : Nat) (a0 : Int) (a1 : Int) : Option (Int × Bool) := (spec_feSize.f a0 a1 13).bind fun t101 => (if t101 = true then ((spec_feLines.f k a0 a1).bind fun t102 => (if 0 ≤ a0 ∧ a0 < (t102.length : Int) ∧ 0 ≤ a1 ∧ a1 < ((rd_L5 t102 a0).length : Int) then ((spec_feAll.f a0 a1).bind fun t107 => (if 0 < (t107.length : Int) then (some (wrap64 ((rd (rd_L5 t102 a0) a1) - (((rd_T38 t107 0).f2).length : Int)), true)) else (none))) else (none))) else (some (0, false)))
theorem spec_LinesLose.mono : ∀ a0 a1 k, LeO (spec_LinesLose.f k a0 a1) (spec_LinesLose.f (k + 1) a0 a1) := by
  intro a0 a1 k
  unfold spec_LinesLose.f
  exact LeO.bind (LeO.refl _) (fun _ => LeO.ite (LeO.bind (spec_feLines.mono _ _ _) (fun _ => LeO.refl _)) (LeO.refl _))
set_option maxHeartbeats 4000000 in
theorem spec_LinesLose.calls (k : Nat) (a0 : Int) (a1 : Int) (r1 : Int) (r2 : Bool) (w : World) (h : spec_LinesLose.f k a0 a1 = some (r1, r2)) :
    Calls Try.prog 22 #[.int .i64 a0, .int .i64 a1] w fun e w' => e = .returned (.tuple #[.int .i64 r1, .bool r2]) ∧ Below w.heap.size w w' := by
  unfold spec_LinesLose.f at h
  obtain ⟨t, hs, h⟩ := Option.bind_eq_some_iff.mp h
  have HS := Aside0.mk (fun V => spec_feSize.calls a0 a1 13 t V hs)
  clear hs
  cases t with
  | false =>
    rw [if_neg (by decide)] at h
    obtain ⟨rfl, rfl⟩ : (0 : Int) = r1 ∧ false = r2 := by simpa using h
    clear h
    go_enter Try.func22, Try.ntmps22
    go_wp2_with (go_at_call 28; refine (HS.out _).mono ?_; rintro e w1 ⟨rfl, ⟨nd, rfl⟩⟩)
    go_ret2
    exact ⟨rfl, by repeat (first | exact Below.refl _ _ | apply pw_below_drewN | apply below_alloc)⟩
  | true =>
    rw [if_pos rfl] at h
    obtain ⟨L, hL, h⟩ := Option.bind_eq_some_iff.mp h
    by_cases hc : 0 ≤ a0 ∧ a0 < (L.length : Int) ∧ 0 ≤ a1 ∧ a1 < ((rd_L5 L a0).length : Int)
    · rw [if_pos hc] at h
      obtain ⟨C, hC, h⟩ := Option.bind_eq_some_iff.mp h
      by_cases hn : 0 < (C.length : Int)
      · rw [if_pos hn] at h
        obtain ⟨hr1, rfl⟩ : wrap64 ((rd (rd_L5 L a0) a1) - (((rd_T38 C 0).f2).length : Int)) = r1 ∧ true = r2 := by simpa using h
        obtain ⟨h1, h2, h3, h4⟩ := hc
        have HL : Aside0 (∀ V, Calls Try.prog 43 #[.int .i64 a0, .int .i64 a1] V fun e w' => ∃ ad c ad2 c2, e = .returned (.slice (some ad) L.length c) ∧ (∀ W, Below w'.heap.size w' W → W.cell? (ad.add a0.toNat) = some (.slice (some ad2) (rd_L5 L a0).length c2) ∧ W.cell? (ad2.add a1.toNat) = some (.int .i64 (rd (rd_L5 L a0) a1))) ∧ Below V.heap.size V w') := ⟨fun V => by
          refine (spec_feLines.calls k a0 a1 L V hL).mono ?_
          rintro e w' ⟨v, rfl, ho, hb⟩
          obtain ⟨A, c, rfl⟩ := Kd.S_slice ho
          have hrd := (Kd.S_reads' ho).2.2
          obtain ⟨ad, A0, c0, rfl, hx, _, hy⟩ := at_L5 hrd a0 h1 h2
          obtain ⟨ad2, rfl, hz⟩ := Kd.at_int hy a1 h3 h4
          exact ⟨ad, c, ad2, c0, rfl, fun W hW => ⟨(hW.cell (World.block_lt_of_cell? w' _ hx)).trans hx, (hW.cell (World.block_lt_of_cell? w' _ hz)).trans hz⟩, hb⟩⟩
        have HF : Aside0 (∀ V, Calls Try.prog 29 #[.int .i64 a0, .int .i64 a1] V fun e w' => ∃ g c A2 c2, e = .returned (.slice (some ⟨g, 0, none⟩) C.length c) ∧ (∀ W, Below w'.heap.size w' W → W.cell? ⟨g, 2, none⟩ = some (.slice A2 (rd_T38 C 0).f2.length c2)) ∧ Below V.heap.size V w') := ⟨fun V => by
          refine (spec_feAll.calls a0 a1 C V hC).mono ?_
          rintro e w' ⟨v, rfl, ho, hb⟩
          obtain ⟨g, cap, rfl, _⟩ := Kd.S_form ho (by omega)
          have hrd := (Kd.S_reads' ho).2.2
          obtain ⟨ad, A2, c2, e2, _, _, hx, _⟩ := at_T38 hrd 0 (Int.le_refl _) hn
          injection e2 with e2
          subst e2
          have hx' : w'.cell? ⟨g, 2, none⟩ = some (.slice A2 (rd_T38 C 0).f2.length c2) := by simpa [add_plain] using hx
          exact ⟨g, cap, A2, c2, rfl, fun W hW => (hW.cell (World.block_lt_of_cell? w' _ hx')).trans hx', hb⟩⟩
        generalize (rd_L5 L a0).length = rl at HL h4
        generalize rd (rd_L5 L a0) a1 = x at HL hr1
        generalize (rd_T38 C 0).f2.length = y at HF hr1
        generalize L.length = ll at HL h2
        generalize C.length = cl at HF hn
        have p1 := eq_true h1
        have p2 := eq_true h2
        have p3 := eq_true h3
        have p4 := eq_true h4
        have p5 : 0 < cl := by omega
        have hwx : IntKind.i64.wrap (x - (y : Int)) = r1 := (i64_w _).trans hr1
        clear h hL hC hr1 h1 h2 h3 h4 hn
        go_enter Try.func22, Try.ntmps22
        go_wp2_with (go_at_call 28; refine (HS.out _).mono ?_; rintro e w1 ⟨rfl, ⟨nd, rfl⟩⟩)
        have HB0 : Aside0 (Below w.heap.size w (w.drewN nd)) := ⟨pw_below_drewN (Below.refl _ _) _⟩
        generalize w.drewN nd = w1 at HB0 ⊢
        go_region_law (first | (go_simp; go_at_call 43; refine (HL.out _).mono ?_; rintro e w2 ⟨ad, c, ad2, c2, rfl, hA, hb⟩; have HA := Aside0.mk hA; have hx := hA w2 (Below.refl _ _); have xa1 := hx.1; have xa2 := hx.2; (try have yb1 := HBc.out _ hb); (first | (have HB1 : Aside0 (Below w.heap.size w w2) := ⟨HB0.out.trans (hb.mono HB0.out.size)⟩) | (have HB1 : Aside0 (Below w.heap.size w w2) := ⟨HB0.out.trans (((below_drew (Below.refl _ _)).trans (hb.mono (Nat.le_refl _))).mono HB0.out.size)⟩) | (have HB1 : Aside0 (Below w.heap.size w w2) := ⟨HB2.out.trans (hb.mono HB2.out.size)⟩)); clear hx hA hb) | (go_simp; go_at_call 29; refine (HF.out _).mono ?_; rintro e w2 ⟨g, cc, A2, c3, rfl, hB, hb⟩; have HBc := Aside0.mk hB; have xb1 := hB w2 (Below.refl _ _); (try (have hx := HA.out _ hb; have ya1 := hx.1; have ya2 := hx.2; clear hx)); (first | (have HB2 : Aside0 (Below w.heap.size w w2) := ⟨HB0.out.trans (hb.mono HB0.out.size)⟩) | (have HB2 : Aside0 (Below w.heap.size w w2) := ⟨HB0.out.trans (((below_drew (Below.refl _ _)).trans (hb.mono (Nat.le_refl _))).mono HB0.out.size)⟩) | (have HB2 : Aside0 (Below w.heap.size w w2) := ⟨HB1.out.trans (hb.mono HB1.out.size)⟩)); clear hB hb))
        all_goals
          go_wp2_with fail
          go_ret2
          exact ⟨by first | rfl | (simp [hwx]; done), by first | exact HB2.out | exact HB1.out⟩
      · rw [if_neg hn] at h; cases h
    · rw [if_neg hc] at h; cases h

end Go.Proofs.Ytfmhcgjmgaefcab.P

namespace Go.Proofs.Ytfmhcgjmgaefcab.P
open Go.RowKit Go.Proofs.YtfmhcgjmgaefcabW.PrintWords Go.Proofs.YtfmhcgjmgaefcabW.PrintLast Go.Proofs.YtfmhcgjmgaefcabW.PrintMore
attribute [local go_sem] max2_int min2_int max_two min_two max_three min_three max_four min_four
set_option linter.unusedVariables false
set_option linter.unusedSimpArgs false

/-! ### impl_within: function 33 -/
def impl_within.f (a0 : Int) (a1 : Int) (a2 : Int) : Option (Bool) := if a1 ≤ a0 then (some (decide (a0 ≤ a2))) else (some false)
set_option maxHeartbeats 8000000 in
set_option maxRecDepth 100000 in
theorem impl_within.calls (a0 : Int) (a1 : Int) (a2 : Int) (r : Bool) (w : World) (h : impl_within.f a0 a1 a2 = some r) :
    Calls Try.prog 33 #[.int .i64 a0, .int .i64 a1, .int .i64 a2] w fun e w' => e = .returned (.bool r) ∧ Drawn0 w w' := by
  have H : (if a1 ≤ a0 then (some (decide (a0 ≤ a2))) else (some false)) = some r := h
  clear h
  by_cases c4 : a1 ≤ a0
  · rw [if_pos c4] at H
    have c4b0 : decide (a1 ≤ a0) = true := decide_eq_true c4
    clear c4
    obtain rfl := Option.some.inj H
    go_enter Try.func33, Try.ntmps33
    go_wp2
    go_ret
    exact ⟨by first | rfl | (simp; done) | (simp [*]; done), by repeat (first | exact Drawn0.refl _ | apply Drawn0.step)⟩
  · rw [if_neg c4] at H
    have c4b0 : decide (a1 ≤ a0) = false := decide_eq_false c4
    clear c4
    obtain rfl := Option.some.inj H
    go_enter Try.func33, Try.ntmps33
    go_wp2
    go_ret
    exact ⟨by first | rfl | (simp; done) | (simp [*]; done), by repeat (first | exact Drawn0.refl _ | apply Drawn0.step)⟩

end Go.Proofs.Ytfmhcgjmgaefcab.P

namespace Go.Proofs.Ytfmhcgjmgaefcab.P
open Go.RowKit Go.Proofs.YtfmhcgjmgaefcabW.PrintWords Go.Proofs.YtfmhcgjmgaefcabW.PrintLast Go.Proofs.YtfmhcgjmgaefcabW.PrintMore
attribute [local go_sem] max2_int min2_int max_two min_two max_three min_three max_four min_four
set_option linter.unusedVariables false
set_option linter.unusedSimpArgs false

/-! ### impl_isFew: function 30 -/
def impl_isFew.f (a0 : Int) (a1 : Int) : Option (Bool) := (impl_within.f a0 1 13).bind fun t101 => (if t101 = true then ((impl_within.f a1 1 13).bind fun t102 => (some t102)) else (some false))
set_option maxHeartbeats 8000000 in
set_option maxRecDepth 100000 in
theorem impl_isFew.calls (a0 : Int) (a1 : Int) (r : Bool) (w : World) (h : impl_isFew.f a0 a1 = some r) :
    Calls Try.prog 30 #[.int .i64 a0, .int .i64 a1] w fun e w' => e = .returned (.bool r) ∧ Drawn0 w w' := by
  have H : ((impl_within.f a0 1 13).bind fun t101 => (if t101 = true then ((impl_within.f a1 1 13).bind fun t102 => (some t102)) else (some false))) = some r := h
  clear h
  replace H := Option.bind_eq_some_iff.mp H
  obtain ⟨t101, A30, H⟩ := H
  replace H : (if t101 = true then ((impl_within.f a1 1 13).bind fun t102 => (some t102)) else (some false)) = some r := H
  have A3 := Aside0.mk A30
  clear A30
  by_cases c4 : t101 = true
  · subst c4
    have H1 : ((impl_within.f a1 1 13).bind fun t102 => (some t102)) = some r := by rw [if_pos rfl] at H; exact H
    clear H
    have H := H1
    clear H1
    replace H := Option.bind_eq_some_iff.mp H
    obtain ⟨t102, A50, H⟩ := H
    replace H : (some t102) = some r := H
    have A5 := Aside0.mk A50
    clear A50
    obtain rfl := Option.some.inj H
    go_enter Try.func30, Try.ntmps30
    go_wp2_with (first | ((with_reducible refine gate_callee (f := 33) rfl ?_); refine goesL_ (some 6) rfl rfl Try.func33 (by kernel_rfl) rfl #[.int .i64 a0, .int .i64 1, .int .i64 13] rfl (by (try simp only [List.map_toArray, List.map_cons, List.map_nil]); first | done | rfl | (simp only [List.length_drop, List.length_take]; rfl)) ?_; (with_reducible refine (impl_within.calls a0 1 13 true _ A3.out).mono ?_); rintro e w' ⟨rfl, ⟨nd, rfl⟩⟩; refine ⟨_, rfl, ?_⟩) | (go_at_call 33; (with_reducible refine (impl_within.calls a1 1 13 t102 _ A5.out).mono ?_); rintro e w' ⟨rfl, ⟨nd, rfl⟩⟩))
    go_ret
    exact ⟨by first | rfl | (simp; done) | (simp [*]; done), by repeat (first | exact Drawn0.refl _ | apply Drawn0.step)⟩
  · replace c4 := Bool.eq_false_iff.mpr c4
    subst c4
    have H1 : (some false) = some r := by rw [if_neg (show ¬ (false = true) by decide)] at H; exact H
    clear H
    have H := H1
    clear H1
    obtain rfl := Option.some.inj H
    go_enter Try.func30, Try.ntmps30
    go_wp2_with (first | ((with_reducible refine gate_callee (f := 33) rfl ?_); refine goesL_ (some 6) rfl rfl Try.func33 (by kernel_rfl) rfl #[.int .i64 a0, .int .i64 1, .int .i64 13] rfl (by (try simp only [List.map_toArray, List.map_cons, List.map_nil]); first | done | rfl | (simp only [List.length_drop, List.length_take]; rfl)) ?_; (with_reducible refine (impl_within.calls a0 1 13 false _ A3.out).mono ?_); rintro e w' ⟨rfl, ⟨nd, rfl⟩⟩; refine ⟨_, rfl, ?_⟩))
    go_ret
    exact ⟨by first | rfl | (simp; done) | (simp [*]; done), by repeat (first | exact Drawn0.refl _ | apply Drawn0.step)⟩

end Go.Proofs.Ytfmhcgjmgaefcab.P

namespace Go.Proofs.Ytfmhcgjmgaefcab.P
open Go.RowKit Go.Proofs.YtfmhcgjmgaefcabW.PrintWords Go.Proofs.YtfmhcgjmgaefcabW.PrintLast Go.Proofs.YtfmhcgjmgaefcabW.PrintMore
attribute [local go_sem] max2_int min2_int max_two min_two max_three min_three max_four min_four
set_option linter.unusedVariables false
set_option linter.unusedSimpArgs false

/-! ### slices_Min_int_int: function 90 -/
open Go.Proofs.Ytfmhcgjmgaefcab.T
def MinTo (f : List Int) (k : Nat) (m : Int) : Prop := (∃ c, c < k ∧ ht f c = m) ∧ ∀ c, c < k → m ≤ ht f c
theorem MinTo.low {f : List Int} {m : Int} (hne : 0 < f.length) (h : MinTo f f.length m) : m = ht f (low f) := by
  have L := low_spec f (fun e => by simp [e] at hne)
  obtain ⟨⟨c, hc, e⟩, h2⟩ := h
  have h3 := L.le c hc
  have h4 := h2 _ L.lt
  omega
theorem MinTo.next {f : List Int} {k : Nat} {m : Int} (h : MinTo f k m) : MinTo f (k + 1) (if ht f k < m then ht f k else m) := by
  obtain ⟨⟨c, hc, e⟩, h2⟩ := h
  split
  · rename_i hl
    exact ⟨⟨k, by omega, rfl⟩, fun d hd => by
      by_cases e1 : d = k
      · subst e1; omega
      · have := h2 d (by omega); omega⟩
  · rename_i hl
    exact ⟨⟨c, by omega, e⟩, fun d hd => by
      by_cases e1 : d = k
      · subst e1; omega
      · exact h2 d (by omega)⟩
set_option maxHeartbeats 1000000 in
theorem slices_Min_int (f : List Int) (G : Nat) (w : World) (hcol : ∀ i, i < f.length → w.cell? ⟨G, i, none⟩ = some (.int .i64 (ht f i))) (hne : 0 < f.length) (hn : f.length ≤ 1000) :
    Calls Try.prog 90 #[.slice (some ⟨G, 0, none⟩) f.length f.length] w fun e w' => e = .returned (.int .i64 (ht f (low f))) ∧ w = w' := by
  have HC := Aside0.mk hcol
  have h0 : w.cell? ⟨G, 0, none⟩ = some (.int .i64 (ht f 0)) := hcol 0 hne
  have HM : Aside0 (MinTo f 1 (ht f 0)) := ⟨⟨⟨0, by omega, rfl⟩, fun c hc => by rw [show c = 0 by omega]; omega⟩⟩
  clear hcol
  generalize ht f 0 = m0 at h0 HM
  have hz : decide (f.length < 1) = false := decide_eq_false (by omega)
  have hq := eq_true hne
  go_enter Try.func90, Try.ntmps90
  go_wp2
  go_loopg [3, 4] f.length (fun kq v3 v4 wc => ∃ (k : Nat) (m : Int), k ≤ f.length ∧ f.length - k ≤ kq ∧ v3 = .int .i64 m ∧ v4 = .int .i64 k ∧ Aside0 (MinTo f k m) ∧ wc = w)
  case atStart => exact ⟨1, m0, by omega, by omega, rfl, rfl, HM, rfl⟩
  case round =>
    clear HM
    obtain ⟨k, m, hk, hkq, rfl, rfl, HM, rfl⟩ := hrel
    by_cases hlt : k < f.length
    · have hlz : decide (k < f.length) = true := decide_eq_true hlt
      have hc := HC.out k hlt
      have HN := Aside0.mk HM.out.next
      generalize ht f k = y at hc HN
      by_cases c : y < m
      · rw [if_pos c] at HN
        go_wp2
        go_roundg (f.length - (k + 1))
        case measure => omega
        case rel => exact ⟨k + 1, y, by omega, by omega, by first | trivial | rfl, by go_num, HN, by first | trivial | rfl⟩
      · rw [if_neg c] at HN
        go_wp2
        go_roundg (f.length - (k + 1))
        case measure => omega
        case rel => exact ⟨k + 1, m, by omega, by omega, by first | trivial | rfl, by go_num, HN, by first | trivial | rfl⟩
    · have hlz : decide (k < f.length) = false := decide_eq_false hlt
      have hm := MinTo.low hne (by rw [show f.length = k by omega]; exact HM.out)
      have HMM := Aside0.mk hm
      clear hm
      go_wp2
      go_ret
      exact ⟨by rw [← HMM.out]; rfl, rfl⟩

end Go.Proofs.Ytfmhcgjmgaefcab.P

namespace Go.Proofs.Ytfmhcgjmgaefcab.P
open Go.RowKit Go.Proofs.YtfmhcgjmgaefcabW.PrintWords Go.Proofs.YtfmhcgjmgaefcabW.PrintLast Go.Proofs.YtfmhcgjmgaefcabW.PrintMore
attribute [local go_sem] max2_int min2_int max_two min_two max_three min_three max_four min_four
set_option linter.unusedVariables false
set_option linter.unusedSimpArgs false

/-! ### impl_filler_least: function 91 -/
theorem bit_any (b : Bool) (w : World) : Calls Try.prog 79 #[.bool b] w fun e w' => e = .returned (.int .i64 (if b = true then 1 else 0)) ∧ w' = w := by
  cases b
  · go_enter Try.func79, Try.ntmps79
    go_wp2
    go_ret
    exact ⟨rfl, rfl⟩
  · go_enter Try.func79, Try.ntmps79
    go_wp2
    go_ret
    exact ⟨rfl, rfl⟩
open Go.Proofs.Ytfmhcgjmgaefcab.T
/-- the filler in memory: its own cells, its columns -/
structure Fil (w : World) (F G : Nat) (H most : Int) (f : List Int) (vS each : Value) : Prop where
  own : w.heap[F]? = some (.cells #[.int .i64 f.length, .int .i64 H, .slice (some ⟨G, 0, none⟩) f.length f.length, vS, .int .i64 most, each] 80 (0, 0))
  cols : w.heap[G]? = some (.cells (f.map (Value.int .i64)).toArray 3 (0, 0))
theorem Fil.col {w : World} {F G : Nat} {H most : Int} {f : List Int} {vS each : Value} (h : Fil w F G H most f vS each) (i : Nat) (hi : i < f.length) : w.cell? ⟨G, i, none⟩ = some (.int .i64 (ht f i)) := by
  rw [blk_cell h.cols i]
  simp [ht, hi]
theorem Fil.below {w w' : World} {F G : Nat} {H most : Int} {f : List Int} {vS each : Value} (h : Fil w F G H most f vS each) (hb : Below w.heap.size w w') : Fil w' F G H most f vS each :=
  ⟨blk_below h.own hb, blk_below h.cols hb⟩
theorem deepAt_bd {h : Int} {f : List Int} {x : Nat} (h0 : 0 ≤ h) (hx : x < f.length) (hf : ∀ c, c < f.length → 0 ≤ ht f c ∧ ht f c ≤ h) : 0 ≤ deepAt h f x ∧ deepAt h f x ≤ h := by
  have := hf x hx
  unfold deepAt
  simp only
  split <;> split <;> omega
theorem extra_bd {h : Int} {f : List Int} {x : Nat} (hx : x < f.length) (hf : ∀ c, c < f.length → 0 ≤ ht f c ∧ ht f c ≤ h) (hh : h ≤ 1000) : 0 ≤ extra h f x ∧ extra h f x ≤ 1000 := by
  have h0 := hf x hx
  have hd := deepAt_bd (by omega) hx hf
  have hr := runAt_pos f x hx
  unfold extra
  have : (deepAt h f x + (runAt f x : Int) - 1) / (runAt f x : Int) ≤ 1000 := Int.ediv_le_of_le_mul (by omega) (by
    have : (1000 : Int) * 1 ≤ 1000 * (runAt f x : Int) := by omega
    have h2 : ((runAt f x : Int) - 1) * 999 ≥ 0 := Int.mul_nonneg (by omega) (by omega)
    omega)
  omega
theorem extra_form {H : Int} {f : List Int} {x r : Nat} {dp : Int} (hr : runAt f x = r) (hd : deepAt H f x = dp) : extra H f x = max 1 ((dp + (r : Int) - 1) / (r : Int)) - 1 := by unfold extra; rw [hr, hd]
theorem pop_len (y : Int) : ∀ st : List Int, (pop y st).length ≤ st.length
  | [] => Nat.le_refl _
  | z :: st => by
    simp only [pop]
    split
    · exact Nat.le_trans (pop_len y st) (by simp)
    · exact Nat.le_refl _
def pushB (y : Int) : List Int → Bool
  | [] => true
  | z :: _ => decide (y < z)
set_option maxHeartbeats 4000000 in
set_option maxRecDepth 100000 in
theorem filler_least (w : World) (F G : Nat) (H most : Int) (f : List Int) (vS each : Value) (hF : Fil w F G H most f vS each) (hn : f.length ≤ 1000) (hH : H ≤ 1000) (hf : ∀ c, c < f.length → 0 ≤ ht f c ∧ ht f c ≤ H) :
    Calls Try.prog 91 #[.pointer (some ⟨F, 0, none⟩)] w fun e w' => e = .returned (.int .i64 (least H f)) ∧ Below w.heap.size w w' := by
  have HF := Aside0.mk hF
  have Hf := Aside0.mk hf
  have HL : Aside0 (leastL H f (f.length + 1) 0 0 [] = least H f) := ⟨rfl⟩
  clear hF hf
  go_enter Try.func91, Try.ntmps91
  go_wp2
  go_loopg [3, 4, 5] f.length (fun kq v3 v4 v5 wc => ∃ (x : Nat) (many : Int) (st : List Int), x ≤ f.length ∧ f.length - x ≤ kq ∧ v3 = .int .i64 many ∧ v5 = .int .i64 x ∧ 0 ≤ many ∧ many ≤ 2001 * x ∧ Aside0 (∃ m, f.length - x < m ∧ leastL H f m x many st = least H f) ∧ Aside0 (st.length ≤ x) ∧ Aside0 (Kd.R (Kd.int .i64) 3 wc w.heap.size (fun _ => True) v4 st.reverse) ∧ Aside0 (Below w.heap.size w wc))
  case atStart => exact ⟨0, 0, [], by omega, by omega, rfl, rfl, by omega, by omega, ⟨⟨f.length + 1, by omega, HL.out⟩⟩, ⟨by simp⟩, ⟨⟨fun _ _ => trivial, [], World.ownsRow_lit (base := w.heap.size) (e := 3) (size := 1) w #[] 0 (Nat.le_refl _) (by simp [maxLen]) (by simp), Reps.none _ _⟩⟩, ⟨(Below.refl _ _).alloc (Nat.le_refl _) _⟩⟩
  case round =>
    clear HL
    obtain ⟨x, many, st, hx, hkq, rfl, rfl, hm0, hm1, HM, HST, HR, HB⟩ := hrel
    have HFr := Aside0.mk (HF.out.below HB.out)
    have c0 := blk_cell HFr.out.own 0
    have c1 := blk_cell HFr.out.own 1
    have c2 := blk_cell HFr.out.own 2
    simp only [List.getElem?_toArray, List.getElem?_cons_zero, List.getElem?_cons_succ] at c0 c1 c2
    by_cases hlt : x < f.length
    · have hlz : decide (x < f.length) = true := decide_eq_true hlt
      have hcx := HFr.out.col x hlt
      have hrp := runAt_pos f x hlt
      have hrl := runAt_le f x (by omega)
      have hrun : ∃ r, runAt f x = r := ⟨_, rfl⟩
      obtain ⟨r, hr⟩ := hrun
      have HRN := Aside0.mk hr
      rw [hr] at hrp hrl
      clear hr
      obtain ⟨y, hy⟩ : ∃ y, ht f x = y := ⟨_, rfl⟩
      have HY := Aside0.mk hy
      rw [hy] at hcx
      have hyb := Hf.out x hlt
      rw [hy] at hyb
      clear hy
      obtain ⟨wo, rfl⟩ : ∃ wo : World, wo = wr := ⟨_, rfl⟩
      go_upto_block 2 with (fail)
      go_cut [6] (fun v6 wc => v6 = .int .i64 ((x + r : Nat) : Int) ∧ ∃ nd, wc = wo.drewN nd)
      case first => as_aux_lemma =>
        go_wp2_with fail
        go_loopg [6] f.length (fun kq v6 wc => ∃ (e : Nat), x ≤ e ∧ e ≤ x + r ∧ f.length - e ≤ kq ∧ v6 = .int .i64 e ∧ ∃ nd, wc = wo.drewN nd)
        case atStart => exact ⟨x, by omega, by omega, by omega, rfl, 0, rfl⟩
        case round =>
          obtain ⟨e, he0, he1, hek, rfl, nd, rfl⟩ := hrel
          by_cases hee : e < f.length
          · have hez : decide (e < f.length) = true := decide_eq_true hee
            have hce : wo.cell? ⟨G, e, none⟩ = some (.int .i64 (ht f e)) := HFr.out.col e hee
            by_cases he2 : e < x + r
            · have h1 : ht f e = y := by
                have := runAt_eq f x (e - x) (by rw [HRN.out]; omega)
                rw [show x + (e - x) = e by omega, HY.out] at this
                exact this
              rw [h1] at hce
              clear h1
              go_wp2_with fail
              go_quiet (fail)
              go_wp2
              go_roundg (f.length - (e + 1))
              case measure => omega
              case rel => exact ⟨e + 1, by omega, by omega, by omega, by go_num, _, by first | rfl | exact World.drewN_drewN _ _ _⟩
            · have h1 : (ht f e == y) = false := by
                have := runAt_end f x (by rw [HRN.out]; omega)
                rw [HRN.out, show x + r = e by omega, HY.out] at this
                simpa using this
              generalize ht f e = ye at hce h1
              go_wp2_with fail
              go_quiet (fail)
              go_wp2
              go_meet
              case rel => exact ⟨by rw [show e = x + r by omega], _, World.drewN_drewN _ _ _⟩
          · have hez : decide (e < f.length) = false := decide_eq_false hee
            go_wp2_with fail
            go_quiet (fail)
            go_wp2
            go_meet
            case rel => exact ⟨by rw [show e = x + r by omega], _, World.drewN_drewN _ _ _⟩
      case rest =>
        obtain ⟨rfl, nd, rfl⟩ := hcut
        go_wp2_with fail
        go_quiet (fail)
        go_upto_if 54 with (fail)
        go_cut [7] (fun v7 wc => v7 = .int .i64 (if 0 < x then min (H - y) (max 0 (ht f (x - 1) - y)) else H - y) ∧ ∃ nd, wc = wo.drewN nd)
        case first => as_aux_lemma =>
          by_cases c1 : 0 < x
          · have c1z : decide (0 < x) = true := decide_eq_true c1
            have hcp : wo.cell? ⟨G, x - 1, none⟩ = some (.int .i64 (ht f (x - 1))) := HFr.out.col (x - 1) (by omega)
            have hpb := Hf.out (x - 1) (by omega)
            have HX := Aside0.mk c1
            obtain ⟨yp, hyp⟩ : ∃ yp, ht f (x - 1) = yp := ⟨_, rfl⟩
            have HYP := Aside0.mk hyp
            rw [hyp] at hcp hpb
            clear hyp
            go_wp2_with fail
            go_quiet (fail)
            go_wp2_with fail
            all_goals
              go_meet
              case rel => exact ⟨congrArg (Value.int .i64) (by rw [if_pos HX.out, HYP.out]; omega), _, by first | rfl | exact World.drewN_drewN _ _ _⟩
          · have c1z : decide (0 < x) = false := decide_eq_false c1
            have HX := Aside0.mk c1
            go_wp2_with fail
            go_meet
            case rel => exact ⟨congrArg (Value.int .i64) (by rw [if_neg HX.out]), _, by first | rfl | exact World.drewN_drewN _ _ _⟩
        case rest =>
          obtain ⟨rfl, nd, rfl⟩ := hcut
          obtain ⟨d1, hd1⟩ : ∃ d1, (if 0 < x then min (H - y) (max 0 (ht f (x - 1) - y)) else H - y) = d1 := ⟨_, rfl⟩
          have HD1 := Aside0.mk hd1
          have hd1b : 0 ≤ d1 ∧ d1 ≤ H := by rw [← hd1]; split <;> omega
          rw [hd1]
          clear hd1
          go_upto_if 79 with (fail)
          go_cut [7] (fun v7 wc => v7 = .int .i64 (deepAt H f x) ∧ ∃ nd, wc = wo.drewN nd)
          case first => as_aux_lemma =>
            by_cases c1 : x + r < f.length
            · have c1z : decide (x + r < f.length) = true := decide_eq_true c1
              have c1y : (x : Int) + (r : Int) < (f.length : Int) := by omega
              have hcp : wo.cell? ⟨G, x + r, none⟩ = some (.int .i64 (ht f (x + r))) := HFr.out.col (x + r) c1
              have hpb := Hf.out (x + r) c1
              have HX := Aside0.mk c1
              obtain ⟨yp, hyp⟩ : ∃ yp, ht f (x + r) = yp := ⟨_, rfl⟩
              have HYP := Aside0.mk hyp
              rw [hyp] at hcp hpb
              clear hyp
              go_wp2_with fail
              go_quiet (fail)
              go_wp2_with fail
              all_goals
                go_meet
                case rel => exact ⟨congrArg (Value.int .i64) (by unfold deepAt; simp only; rw [HRN.out, if_pos HX.out, HY.out, HYP.out, HD1.out]; omega), _, by first | rfl | exact World.drewN_drewN _ _ _⟩
            · have c1z : decide (x + r < f.length) = false := decide_eq_false c1
              have c1y : ¬ (x : Int) + (r : Int) < (f.length : Int) := by omega
              have HX := Aside0.mk c1
              go_wp2_with fail
              go_meet
              case rel => exact ⟨congrArg (Value.int .i64) (by unfold deepAt; simp only; rw [HRN.out, if_neg HX.out, HY.out, HD1.out]), _, by first | rfl | exact World.drewN_drewN _ _ _⟩
          case rest =>
            obtain ⟨rfl, nd, rfl⟩ := hcut
            obtain ⟨dp, hdp⟩ : ∃ dp, deepAt H f x = dp := ⟨_, rfl⟩
            have HDP := Aside0.mk hdp
            have hdb : 0 ≤ dp ∧ dp ≤ H := by rw [← hdp]; exact deepAt_bd (by omega) hlt Hf.out
            rw [hdp]
            clear hdp HD1 hd1b
            have heb := extra_bd hlt Hf.out hH
            go_upto_region 12 with (fail)
            go_cut [3] (fun v3 wc => v3 = .int .i64 (many + extra H f x) ∧ wc = wo.drewN nd)
            case first => as_aux_lemma =>
              have HEB := Aside0.mk heb
              clear heb
              go_wp2_with fail
              all_goals
                go_meet
                case rel =>
                  rename_i h
                  refine ⟨congrArg (Value.int .i64) ?_, rfl⟩
                  have hf := extra_form HRN.out HDP.out
                  have hb := HEB.out
                  rw [show dp + ((x : Int) + (r : Int)) - (x : Int) - 1 = dp + r - 1 by omega, show (x : Int) + (r : Int) - (x : Int) = r by omega] at h
                  try rw [show dp + ((x : Int) + (r : Int)) - (x : Int) - 1 = dp + r - 1 by omega, show (x : Int) + (r : Int) - (x : Int) = r by omega]
                  rw [hf] at hb ⊢
                  generalize (dp + (r : Int) - 1) / (r : Int) = q at h hb ⊢
                  unfold wrap64
                  omega
            case rest =>
              obtain ⟨rfl, rfl⟩ := hcut
              go_upto_block 4 with (fail)
              go_cut [4] (fun v4 wc => Aside0 (Kd.R (Kd.int .i64) 3 wo w.heap.size (fun _ => True) v4 (pop y st).reverse) ∧ ∃ nd, wc = wo.drewN nd)
              case first => as_aux_lemma =>
                go_wp2_with fail
                go_loopg [4] st.length (fun kq v4 wc => ∃ st1 : List Int, st1.length ≤ kq ∧ Aside0 (pop y st1 = pop y st) ∧ Aside0 (st1.length ≤ x) ∧ Aside0 (Kd.R (Kd.int .i64) 3 wo w.heap.size (fun _ => True) v4 st1.reverse) ∧ ∃ nd, wc = wo.drewN nd)
                case atStart => exact ⟨st, by omega, ⟨rfl⟩, HST, HR, _, rfl⟩
                case round =>
                  obtain ⟨st1, hsk, HP, HS1, HR1, nd1, rfl⟩ := hrel
                  cases st1 with
                  | nil =>
                    obtain ⟨A, c, e⟩ := Kd.R_slice HR1.out
                    simp only [List.reverse_nil, List.length_nil] at e
                    subst e
                    go_wp2_with fail
                    go_quiet (fail)
                    go_wp2_with fail
                    go_meet
                    case rel => exact ⟨by rw [← HP.out]; exact HR1, _, by first | rfl | exact World.drewN_drewN _ _ _⟩
                  | cons z s1 =>
                    have hl1 : (z :: s1).reverse.length = s1.length + 1 := by simp
                    obtain ⟨A, c, e⟩ := Kd.R_slice HR1.out
                    rw [hl1] at e
                    subst e
                    have hl63 : s1.length + 1 ≤ 1001 := by have := HS1.out; simp at this; omega
                    obtain ⟨ad, e1, hz⟩ := Kd.at_int (Kd.R_reads' HR1.out).2.2 ((s1.length : Nat) : Int) (by omega) (by rw [hl1]; omega)
                    subst e1
                    have hz2 : rd (z :: s1).reverse ((s1.length : Nat) : Int) = z := by simp [rd]
                    rw [hz2, Int.toNat_natCast] at hz
                    have hb1 := eq_true (show (0 : Int) ≤ (s1.length : Int) by omega)
                    have hb2 := eq_true (show (s1.length : Int) < ((s1.length + 1 : Nat) : Int) by omega)
                    have hb3 := eq_true (show (s1.length : Int) < (s1.length : Int) + 1 by omega)
                    have hzo : wo.cell? (ad.add s1.length) = some (.int .i64 z) := hz
                    have hcc : s1.length + 1 ≤ c := by have := (Kd.R_reads' HR1.out).2.1; omega
                    have hcd := eq_true (show s1.length ≤ c by omega)
                    clear hz2 hl1 hz
                    have hw1 : IntKind.i64.wrap (((s1.length + 1 : Nat) : Int) - 1) = (s1.length : Int) := (i64_w _).trans (by unfold wrap64; omega)
                    have hw2 : IntKind.i64.wrap ((s1.length : Int) + 1 - 1) = (s1.length : Int) := (i64_w _).trans (by unfold wrap64; omega)
                    have hw3 : IntKind.i64.wrap (s1.length : Int) = (s1.length : Int) := (i64_w _).trans (by unfold wrap64; omega)
                    by_cases hzy : z < y
                    · go_wp2_with fail
                      go_quiet (fail)
                      go_wp2_with fail
                      clear hw1 hw2 hw3
                      go_roundg s1.length
                      case measure =>
                        clear hb1 hb2 hb3 hcd hcc
                        simp only [List.length_cons] at hsk
                        omega
                      case rel =>
                        refine ⟨s1, Nat.le_refl _, ⟨by rw [← HP.out]; simp only [pop, if_pos hzy]⟩, ⟨Nat.le_trans (by simp) HS1.out⟩, ⟨?_⟩, _, by first | rfl | exact World.drewN_drewN _ _ _⟩
                        have := Kd.R_take HR1.out (m := s1.length) (by simp)
                        rw [show (z :: s1).reverse.take s1.length = s1.reverse by simp] at this
                        exact this
                    · go_wp2_with fail
                      go_quiet (fail)
                      go_wp2_with fail
                      go_meet
                      case rel => exact ⟨by rw [← HP.out, show pop y (z :: s1) = z :: s1 by simp only [pop, if_neg (Int.not_lt.2 hzy)]]; exact HR1, _, by first | rfl | exact World.drewN_drewN _ _ _⟩
              case rest =>
                obtain ⟨HR4, nd, rfl⟩ := hcut
                obtain ⟨p, hp⟩ : ∃ p, pop y st = p := ⟨_, rfl⟩
                have HPP := Aside0.mk hp
                rw [hp] at HR4
                have HPL : Aside0 (p.length ≤ x) := ⟨by rw [← hp]; exact Nat.le_trans (pop_len _ _) HST.out⟩
                clear hp HR HST
                go_upto_region 15 with (fail)
                go_cut [154] (fun v154 wc => v154 = .bool (pushB y p) ∧ ∃ nd, wc = wo.drewN nd)
                case first => as_aux_lemma =>
                  cases p with
                  | nil =>
                    obtain ⟨A, c, e⟩ := Kd.R_slice HR4.out
                    simp only [List.reverse_nil, List.length_nil] at e
                    subst e
                    go_quiet (fail)
                    go_wp2_with fail
                    go_meet
                    case rel => exact ⟨rfl, _, by first | rfl | exact World.drewN_drewN _ _ _⟩
                  | cons z s1 =>
                    have hyz : y ≤ z := pop_head HPP.out
                    have hl1 : (z :: s1).reverse.length = s1.length + 1 := by simp
                    obtain ⟨A, c, e⟩ := Kd.R_slice HR4.out
                    rw [hl1] at e
                    subst e
                    have hl63 : s1.length + 1 ≤ 1001 := by have := HPL.out; simp at this; omega
                    obtain ⟨ad, e1, hz⟩ := Kd.at_int (Kd.R_reads' HR4.out).2.2 ((s1.length : Nat) : Int) (by omega) (by rw [hl1]; omega)
                    subst e1
                    have hz2 : rd (z :: s1).reverse ((s1.length : Nat) : Int) = z := by simp [rd]
                    rw [hz2, Int.toNat_natCast] at hz
                    have hb1 := eq_true (show (0 : Int) ≤ (s1.length : Int) by omega)
                    have hb2 := eq_true (show (s1.length : Int) < ((s1.length + 1 : Nat) : Int) by omega)
                    have hb3 := eq_true (show (s1.length : Int) < (s1.length : Int) + 1 by omega)
                    clear hz2 hl1
                    have hne : decide (s1.length + 1 = 0) = false := by simp
                    have hw1 : IntKind.i64.wrap (((s1.length + 1 : Nat) : Int) - 1) = (s1.length : Int) := (i64_w _).trans (by unfold wrap64; omega)
                    have hw2 : IntKind.i64.wrap ((s1.length : Int) + 1 - 1) = (s1.length : Int) := (i64_w _).trans (by unfold wrap64; omega)
                    have hw3 : IntKind.i64.wrap (s1.length : Int) = (s1.length : Int) := (i64_w _).trans (by unfold wrap64; omega)
                    go_quiet (fail)
                    go_wp2_with fail
                    go_meet
                    case rel => exact ⟨rfl, _, by first | rfl | exact World.drewN_drewN _ _ _⟩
                case rest =>
                  obtain ⟨rfl, nd2, rfl⟩ := hcut
                  have HMM : Aside0 (∃ m, f.length - (x + r) < m ∧ leastL H f m (x + r) (if pushB y p = true then many + extra H f x + (if y < H then 1 else 0) else many + extra H f x) (if pushB y p = true then y :: p else p) = least H f) := ⟨by
                    obtain ⟨m, hm, h⟩ := HM.out
                    obtain ⟨m, rfl⟩ : ∃ q, m = q + 1 := ⟨m - 1, by omega⟩
                    refine ⟨m, by omega, ?_⟩
                    rw [← h]
                    simp only [leastL, if_pos hlt, HY.out, HRN.out, HPP.out]
                    cases p with
                    | nil => rfl
                    | cons z s1 =>
                      by_cases c : y < z
                      · simp only [pushB, decide_eq_true c, if_pos c, if_true]
                      · have cc : decide (y < z) = false := decide_eq_false c
                        simp only [pushB, cc, if_neg c]
                        rfl⟩
                  clear HM
                  generalize pushB y p = b at HMM
                  cases b with
                  | true =>
                    rw [if_pos rfl, if_pos rfl] at HMM
                    obtain ⟨A, c, e⟩ := Kd.R_slice HR4.out
                    subst e
                    go_upto_region 17 with (first | ((with_reducible refine gate_builtin (b := .append) (xs := #[.tmp 155, .tmp 163]) rfl ?_); at_builtin; refine Kd.R_append (Kd.int .i64) (w0 := w) w.heap.size rfl (.tmp 155) (.tmp 163) 25 3 (.int .i64 0) 8 rfl Try.underlying25 info3 rfl (by decide) (by omega) (.slice A p.reverse.length c) p.reverse y [.int .i64 y] (fun _ => True) (fun _ => False) rfl rfl ?aP (fun _ hk => hk.elim) (fun _ _ => trivial) ?aO ?aB ?aS ?aL ?_; (case aP => exact rfl); (case aB => exact (by repeat (first | (with_reducible first | exact HB.out | apply below_alloc | apply pw_below_drewN | apply below_drew1) | exact HB.out))); (case aO => exact (by (with_reducible repeat (first | apply Kd.R_alloc | apply Kd.R_drewN | apply Kd.R_drew)); exact HR4.out)); (case aS => exact HB.out.size); (case aL => have := HPL.out; simp; omega); intro v71 w12 ho hb hg hat; have n0_ := Aside0.mk hb; have n1_ := Aside0.mk ho; clear ho hb hg hat HR4 c0 c1 c2 hcx))
                    have HF2 := Aside0.mk (HF.out.below n0_.out)
                    have d1 := blk_cell HF2.out.own 1
                    have d2 := blk_cell HF2.out.own 2
                    simp only [List.getElem?_toArray, List.getElem?_cons_zero, List.getElem?_cons_succ] at d1 d2
                    have hcx := HF2.out.col x hlt
                    rw [HY.out] at hcx
                    have HBT := Aside0.mk (fun b W => bit_any b W)
                    by_cases c9 : y < H
                    · have c9z : decide (y < H) = true := decide_eq_true c9
                      rw [if_pos c9] at HMM
                      go_quiet ((go_at_call 79; exact Calls.quiet_of_same (HBT.out _ _)))
                      go_wp2_with fail
                      go_roundg (f.length - (x + r))
                      case measure => omega
                      case rel =>
                        exact ⟨x + r, many + extra H f x + 1, y :: p, by omega, by omega, by first | rfl | go_num, by first | rfl | go_num, by omega, by omega, HMM, ⟨by have := HPL.out; simp only [List.length_cons]; omega⟩, ⟨by (with_reducible repeat (first | apply Kd.R_alloc | apply Kd.R_drewN | apply Kd.R_drew)); rw [List.reverse_cons]; exact n1_.out⟩, ⟨by repeat (first | (with_reducible first | exact n0_.out | apply below_alloc | apply pw_below_drewN | apply below_drew1) | exact n0_.out)⟩⟩
                    · have c9z : decide (y < H) = false := decide_eq_false c9
                      rw [if_neg c9] at HMM
                      go_quiet ((go_at_call 79; exact Calls.quiet_of_same (HBT.out _ _)))
                      go_wp2_with fail
                      go_roundg (f.length - (x + r))
                      case measure => omega
                      case rel =>
                        exact ⟨x + r, many + extra H f x + 0, y :: p, by omega, by omega, by first | rfl | go_num, by first | rfl | go_num, by omega, by omega, HMM, ⟨by have := HPL.out; simp only [List.length_cons]; omega⟩, ⟨by (with_reducible repeat (first | apply Kd.R_alloc | apply Kd.R_drewN | apply Kd.R_drew)); rw [List.reverse_cons]; exact n1_.out⟩, ⟨by repeat (first | (with_reducible first | exact n0_.out | apply below_alloc | apply pw_below_drewN | apply below_drew1) | exact n0_.out)⟩⟩
                  | false =>
                    rw [if_neg (by decide), if_neg (by decide)] at HMM
                    go_wp2_with fail
                    go_roundg (f.length - (x + r))
                    case measure => omega
                    case rel =>
                      exact ⟨x + r, many + extra H f x, p, by omega, by omega, rfl, by go_num, by omega, by omega, HMM, ⟨Nat.le_trans HPL.out (by omega)⟩, ⟨Kd.R_drewN HR4.out _⟩, ⟨pw_below_drewN HB.out _⟩⟩
    · have hlz : decide (x < f.length) = false := decide_eq_false hlt
      have hL : many = least H f := by
        obtain ⟨m, hm, h⟩ := HM.out
        obtain ⟨m, rfl⟩ : ∃ q, m = q + 1 := ⟨m - 1, by omega⟩
        simp only [leastL] at h
        rw [if_neg hlt] at h
        exact h
      have HLL := Aside0.mk hL
      clear hL
      go_wp2
      go_ret
      exact ⟨by rw [HLL.out]; rfl, HB.out⟩

end Go.Proofs.Ytfmhcgjmgaefcab.P

namespace Go.Proofs.Ytfmhcgjmgaefcab.P
open Go.RowKit Go.Proofs.YtfmhcgjmgaefcabW.PrintWords Go.Proofs.YtfmhcgjmgaefcabW.PrintLast Go.Proofs.YtfmhcgjmgaefcabW.PrintMore
attribute [local go_sem] max2_int min2_int max_two min_two max_three min_three max_four min_four
set_option linter.unusedVariables false
set_option linter.unusedSimpArgs false

/-! ### slices_Index_int_int: function 92 -/
def slices_Index_int_int.l0 : Nat → List Int → Int → Int → Int → Option (Int)
  | 0, _, _, _, _ => none
  | k + 1, x0, x1, x7, x8 => if x8 < x7 then (if 0 ≤ x8 then (if x8 < (x0.length : Int) then (if x1 = (rd x0 x8) then (some x8) else (slices_Index_int_int.l0 k x0 x1 x7 (wrap64 (x8 + 1)))) else (none)) else (none)) else (some (-1))
def slices_Index_int_int.f (k : Nat) (l0 : List Int) (a1 : Int) : Option (Int) := slices_Index_int_int.l0 k l0 a1 (l0.length : Int) 0
theorem slices_Index_int_int.mono_l : ∀ k, (∀ y0 y1 y2 y3, LeO (slices_Index_int_int.l0 k y0 y1 y2 y3) (slices_Index_int_int.l0 (k + 1) y0 y1 y2 y3))
  | 0 => fun _ _ _ _ r h => by simp [slices_Index_int_int.l0] at h
  | k + 1 => by
    have ih0 := slices_Index_int_int.mono_l k
    · intro y0 y1 y2 y3
      unfold slices_Index_int_int.l0
      repeat' first
      | (with_reducible exact ih0 _ _ _ _)
      | (with_reducible exact LeO.refl _)
      | (with_reducible exact LeO.none _)
      | (with_reducible refine LeO.ite ?_ ?_)
      | (with_reducible refine LeO.bind ?_ (fun _ => ?_))
      | exact ih0 _ _ _ _
      | exact LeO.none _
      | refine LeO.ite ?_ ?_
      | refine LeO.bind ?_ (fun _ => ?_)
theorem slices_Index_int_int.mono : ∀ a0 a1 k, LeO (slices_Index_int_int.f k a0 a1) (slices_Index_int_int.f (k + 1) a0 a1) := by
  intro a0 a1 k
  have ih0 := slices_Index_int_int.mono_l k
  unfold slices_Index_int_int.f
  repeat' first
      | (with_reducible exact ih0 _ _ _ _)
      | (with_reducible exact LeO.refl _)
      | (with_reducible exact LeO.none _)
      | (with_reducible refine LeO.ite ?_ ?_)
      | (with_reducible refine LeO.bind ?_ (fun _ => ?_))
      | exact ih0 _ _ _ _
      | exact LeO.none _
      | refine LeO.ite ?_ ?_
      | refine LeO.bind ?_ (fun _ => ?_)
set_option maxHeartbeats 8000000 in
set_option maxRecDepth 100000 in
theorem slices_Index_int_int.calls (k : Nat) (A0 : Option Addr) (c0 : Nat) (l0 : List Int) (a1 : Int) (r : Int) (w : World) (hr0 : Kd.C (Kd.int .i64) w A0 l0.length l0) (hc0 : l0.length ≤ c0) (h : slices_Index_int_int.f k l0 a1 = some r) :
    Calls Try.prog 92 #[.slice A0 l0.length c0, .int .i64 a1] w fun e w' => e = .returned (.int .i64 r) ∧ Drawn0 w w' := by
  have HR0 := Aside0.mk hr0
  have HC0 := Aside0.mk hc0
  clear hr0 hc0
  have H : (slices_Index_int_int.l0 k l0 a1 (l0.length : Int) 0) = some r := h
  clear h
  have H' := Aside0.mk H
  clear H
  go_enter Try.func92, Try.ntmps92
  go_wp2
  go_loopg [8] k (fun kq v8 w' => ∃ (x8_1 : Int), v8 = .int .i64 x8_1 ∧ Aside0 (slices_Index_int_int.l0 kq l0 a1 (l0.length : Int) x8_1 = some r) ∧ Aside0 (kq ≤ k) ∧ Drawn0 w w')
  case atStart => exact ⟨(0), (by first | rfl | (simp; done) | (simp [*]; done)), H', ⟨Nat.le_refl _⟩, by repeat (first | exact Drawn0.refl _ | apply Drawn0.step)⟩
  case round =>
    clear H'
    try clear p2
    obtain ⟨x8_1, rfl, HA, HK1, ⟨m1, rfl⟩⟩ := hrel
    cases gk with
    | zero => exact absurd HA.out (by simp [slices_Index_int_int.l0])
    | succ k1 =>
      have H := HA.out
      clear HA
      simp only [slices_Index_int_int.l0] at H
      by_cases c3 : x8_1 < (l0.length : Int)
      · rw [if_pos c3] at H
        have c3b0 : decide (x8_1 < (l0.length : Int)) = true := decide_eq_true c3
        clear c3
        by_cases c4 : 0 ≤ x8_1
        · rw [if_pos c4] at H
          have c4b0 : decide (0 ≤ x8_1) = true := decide_eq_true c4
          clear c4
          by_cases c5 : x8_1 < (l0.length : Int)
          · rw [if_pos c5] at H
            have c5b0 : decide (x8_1 < (l0.length : Int)) = true := decide_eq_true c5
            clear c5
            by_cases c6 : a1 = (rd l0 x8_1)
            · rw [if_pos c6] at H
              have c6b0 : (a1 == (rd l0 x8_1)) = true := beq_iff_eq.mpr c6
              have c6b1 : (a1 != (rd l0 x8_1)) = false := bne_eq_false_iff_eq.mpr c6
              clear c6
              obtain rfl := Option.some.inj H
              have p101 : 0 ≤ (x8_1 : Int) := of_decide_eq_true (by first | (with_reducible assumption) | assumption)
              have q101 : x8_1 < (l0.length : Int) := of_decide_eq_true (by first | (with_reducible assumption) | assumption)
              obtain ⟨ad101, e101, hx101_0⟩ := Kd.at_int HR0.out x8_1 p101 q101
              cases e101
              replace p101 := eq_true p101
              replace q101 := eq_true q101
              go_wp2
              go_ret
              exact ⟨by first | rfl | (simp; done) | (simp [*]; done), by repeat (first | exact Drawn0.refl _ | apply Drawn0.step)⟩
            · rw [if_neg c6] at H
              have c6b0 : (a1 == (rd l0 x8_1)) = false := beq_eq_false_iff_ne.mpr c6
              have c6b1 : (a1 != (rd l0 x8_1)) = true := bne_iff_ne.mpr c6
              have H' := Aside0.mk H
              clear H
              have p101 : 0 ≤ (x8_1 : Int) := of_decide_eq_true (by first | (with_reducible assumption) | assumption)
              have q101 : x8_1 < (l0.length : Int) := of_decide_eq_true (by first | (with_reducible assumption) | assumption)
              obtain ⟨ad101, e101, hx101_0⟩ := Kd.at_int HR0.out x8_1 p101 q101
              cases e101
              replace p101 := eq_true p101
              replace q101 := eq_true q101
              go_wp2
              go_roundg k1
              case measure => have := HK1.out; omega
              case rel => exact ⟨(wrap64 (x8_1 + 1)), (by first | rfl | (simp; done) | (simp [*]; done)), H', ⟨by have := HK1.out; omega⟩, by repeat (first | exact Drawn0.refl _ | apply Drawn0.step)⟩
          · rw [if_neg c5] at H
            exact absurd H (by simp)
        · rw [if_neg c4] at H
          exact absurd H (by simp)
      · rw [if_neg c3] at H
        have c3b0 : decide (x8_1 < (l0.length : Int)) = false := decide_eq_false c3
        clear c3
        obtain rfl := Option.some.inj H
        go_wp2
        go_ret
        exact ⟨by first | rfl | (simp; done) | (simp [*]; done), by repeat (first | exact Drawn0.refl _ | apply Drawn0.step)⟩

end Go.Proofs.Ytfmhcgjmgaefcab.P

namespace Go.Proofs.Ytfmhcgjmgaefcab.T
set_option linter.unusedVariables false
section
variable {σ α : Type}
def RunQ (Q : σ → α → Prop) (step : σ → α → σ × Bool) : σ → List α → Prop
  | _, [] => True
  | s, t :: l => Q s t ∧ ((step s t).2 = true → RunQ Q step (step s t).1 l)
variable {Q : σ → α → Prop} {step : σ → α → σ × Bool}
theorem RunQ.triv (h : ∀ s t, Q s t) : ∀ (l : List α) (s : σ), RunQ Q step s l
  | [], _ => trivial
  | t :: l, s => ⟨h s t, fun _ => RunQ.triv h l _⟩
theorem RunQ.of_mem : ∀ (l : List α) (s : σ), (∀ t ∈ l, ∀ s, Q s t) → RunQ Q step s l
  | [], _, _ => trivial
  | t :: l, s, h => ⟨h t List.mem_cons_self s, fun _ => RunQ.of_mem l _ (fun x hx => h x (List.mem_cons_of_mem _ hx))⟩
theorem RunQ.left : ∀ {A B : List α} {s : σ}, RunQ Q step s (A ++ B) → RunQ Q step s A
  | [], _, _, _ => trivial
  | t :: A, B, s, h => ⟨h.1, fun e => RunQ.left (h.2 e)⟩
theorem RunQ.right : ∀ {A B : List α} {s s' : σ}, RunQ Q step s (A ++ B) → foldE step s A = (s', true) → RunQ Q step s' B
  | [], B, s, s', h, e => by
    simp only [foldE, Prod.mk.injEq, and_true] at e
    subst e; exact h
  | t :: A, B, s, s', h, e => by
    simp only [foldE] at e
    cases c : (step s t).2 with
    | true =>
      have e' : foldE step (step s t).1 A = (s', true) := by
        first
          | (rw [c] at e; simpa using e)
          | (split at e <;> simp_all)
      exact RunQ.right (h.2 c) e'
    | false =>
      exfalso
      first
        | (rw [c] at e; simp at e)
        | (split at e <;> simp_all)
end
end Go.Proofs.Ytfmhcgjmgaefcab.T

namespace Go.Proofs.Ytfmhcgjmgaefcab.Gr
open Go Go.RowKit
/-- A world in which all that lay in X lies unturned. -/
structure Gr (X : World) where
  W : World
  h : Below X.heap.size X W
instance (X : World) : Inhabited (Gr X) := ⟨⟨X, Below.refl _ _⟩⟩
theorem wp_region_gr {P : Program} {id : Nat} {Q : Exit → Act → World → Prop} {a : Act} {X : World} {l : List Oper} (hm : P.follows .mixedOrders = true) (hB : Region.lexB .any l.toArray = true)
    (h : wpQuiet P l.toArray (fun W => ∃ p : Gr X, W = p.W) (fun a' => ∀ w', (∃ p : Gr X, w' = p.W) → Q .normal a' w') l a) : (Code.region id l.toArray true).wp P Q a X :=
  wp_region_quiet (C := fun W => ∃ p : Gr X, W = p.W) hm hB ⟨⟨{ X with drawn := X.drawn + 1 }, (Below.refl X.heap.size X).drew⟩, rfl⟩ (by simpa using h)
theorem cell_gr {X : World} {a : Addr} {v : Value} (hb : a.block < X.heap.size) (h : X.cell? a = some v) (p : Gr X) : p.W.cell? a = some v := (p.h.cell hb).trans h
theorem Calls.gr_of {P : Program} {f : FuncId} {args : Array Value} {X : World} {p : Gr X} {v : Value} (h : Calls P f args p.W fun e w' => e = .returned v ∧ Below p.W.heap.size p.W w') :
    Calls P f args p.W fun e w'' => e = .returned v ∧ ∃ q : Gr X, w'' = q.W :=
  h.mono fun _ w' ⟨he, hb⟩ => ⟨he, ⟨⟨w', p.h.trans (hb.mono p.h.size)⟩, rfl⟩⟩
end Go.Proofs.Ytfmhcgjmgaefcab.Gr
