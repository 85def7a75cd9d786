import Derived.Test.YtdfcljfajiihdaaMFnExactCutByLineswWords
import Derived.Test.YtdfcljfajiihdaaMFnExactCutByLineswLast
import Derived.Test.YtdfcljfajiihdaaMFnExactCutByLineswTab
import Derived.Test.YtdfcljfajiihdaaMFnExactCutByLineswApart
import Derived.Test.YtdfcljfajiihdaaMFnExactCutByLineswFoot
import Derived.Test.YtdfcljfajiihdaaMFnExactCutByLineswKept
import Derived.Test.YtdfcljfajiihdaaMFnExactCutByLineswShare
import Derived.Test.YtdfcljfajiihdaaMFnExactCutByLineswN
import Derived.Test.YtdfcljfajiihdaaMFnExactCutByLineswFootNe
import Derived.Test.YtdfcljfajiihdaaMFnExactCutByLineswAt
import Derived.Test.YtdfcljfajiihdaaMFnExactCutByLineswRepsOne
import Derived.Test.YtdfcljfajiihdaaMFnExactCutByLineswGuard
import Derived.Test.YtdfcljfajiihdaaMFnExactCutByLineswMore
import Derived.Test.YtdfcljfajiihdaaMFnExactCutByLinesx0
import Derived.Test.YtdfcljfajiihdaaMFnExactCutByLinesx1
import Derived.Below
import Derived.Deep.QuietTactic
import Derived.Deep.Draws
import Derived.Shelf.Abstract
import Derived.Deep.RegionLaw
import Derived.Deep.RegionLawGrows
import Derived.Deep.DeepCutAuto
namespace Go.Proofs.Ytdfcljfajiihdaa.P
open Go.RowKit Go.Proofs.YtdfcljfajiihdaaW.PrintWords Go.Proofs.YtdfcljfajiihdaaW.PrintLast Go.Proofs.YtdfcljfajiihdaaW.PrintMore
attribute [local go_sem] max2_int min2_int max_two min_two max_three min_three max_four min_four
set_option linter.unusedVariables false
set_option linter.unusedSimpArgs false
mutual
def spec_cuGood.j0 : Nat → Bool → Int → Int → List (S56) → Option (Bool)
  | 0, _, _, _, _ => none
  | k + 1, x24, x102000, x102001, x102002 => if x24 = true then (some false) else (spec_cuGood.l0 k 0 x102002 (x102002.length : Int) 0 x102000 x102001 x102002)
def spec_cuGood.l0 : Nat → Int → List (S56) → Int → Int → Int → Int → List (S56) → Option (Bool)
  | 0, _, _, _, _, _, _, _ => none
  | k + 1, x3, x26, x27, x28, x102000, x102001, x102002 => if x28 < x27 then (if 0 ≤ x28 then (if x28 < (x26.length : Int) then ((spec_l1In.f ((rd_T56 x26 x28).f2) 1 500).bind fun t107 => (if t107 = true then ((spec_l1In.f ((rd_T56 x26 x28).f0) 0 (wrap64 (x102000 - ((rd_T56 x26 x28).f2)))).bind fun t108 => (if t108 = true then ((spec_l1In.f ((rd_T56 x26 x28).f1) 0 (wrap64 (x102001 - ((rd_T56 x26 x28).f2)))).bind fun t109 => (spec_cuGood.j2 k x3 x28 x26 x27 x28 (!t109) x102000 x102001 x102002 ((rd_T56 x26 x28).f0) ((rd_T56 x26 x28).f1) ((rd_T56 x26 x28).f2))) else (spec_cuGood.j2 k x3 x28 x26 x27 x28 true x102000 x102001 x102002 ((rd_T56 x26 x28).f0) ((rd_T56 x26 x28).f1) ((rd_T56 x26 x28).f2)))) else (spec_cuGood.j2 k x3 x28 x26 x27 x28 true x102000 x102001 x102002 ((rd_T56 x26 x28).f0) ((rd_T56 x26 x28).f1) ((rd_T56 x26 x28).f2)))) else (none)) else (none)) else (some (x3 == (wrap64 (x102000 * x102001))))
def spec_cuGood.j2 : Nat → Int → Int → List (S56) → Int → Int → Bool → Int → Int → List (S56) → Int → Int → Int → Option (Bool)
  | 0, _, _, _, _, _, _, _, _, _, _, _, _ => none
  | k + 1, x3, x4, x26, x27, x28, x58, x102000, x102001, x102002, x107000, x107001, x107002 => if x58 = true then (some false) else (if 0 ≤ x4 then (if x4 ≤ (x102002.length : Int) then ((some (x102002.take (x4 : Int).toNat : List (S56))).bind fun y110 => (spec_cuGood.l1 k (wrap64 (x3 + (wrap64 (x107002 * x107002)))) x4 x26 x27 x28 y110 (y110.length : Int) 0 x102000 x102001 x102002 x107000 x107001 x107002)) else (none)) else (none))
def spec_cuGood.l1 : Nat → Int → Int → List (S56) → Int → Int → List (S56) → Int → Int → Int → Int → List (S56) → Int → Int → Int → Option (Bool)
  | 0, _, _, _, _, _, _, _, _, _, _, _, _, _, _ => none
  | k + 1, x3, x4, x26, x27, x28, x69, x70, x71, x102000, x102001, x102002, x107000, x107001, x107002 => if x71 < x70 then (if 0 ≤ x71 then (if x71 < (x69.length : Int) then (if x107000 < (wrap64 (((rd_T56 x69 x71).f0) + ((rd_T56 x69 x71).f2))) then (if ((rd_T56 x69 x71).f0) < (wrap64 (x107000 + x107002)) then (if x107001 < (wrap64 (((rd_T56 x69 x71).f1) + ((rd_T56 x69 x71).f2))) then (spec_cuGood.j4 k x3 x4 x71 x26 x27 x28 x69 x70 x71 (decide (((rd_T56 x69 x71).f1) < (wrap64 (x107001 + x107002)))) x102000 x102001 x102002 x107000 x107001 x107002 ((rd_T56 x69 x71).f0) ((rd_T56 x69 x71).f1) ((rd_T56 x69 x71).f2)) else (spec_cuGood.j4 k x3 x4 x71 x26 x27 x28 x69 x70 x71 false x102000 x102001 x102002 x107000 x107001 x107002 ((rd_T56 x69 x71).f0) ((rd_T56 x69 x71).f1) ((rd_T56 x69 x71).f2))) else (spec_cuGood.j4 k x3 x4 x71 x26 x27 x28 x69 x70 x71 false x102000 x102001 x102002 x107000 x107001 x107002 ((rd_T56 x69 x71).f0) ((rd_T56 x69 x71).f1) ((rd_T56 x69 x71).f2))) else (spec_cuGood.j4 k x3 x4 x71 x26 x27 x28 x69 x70 x71 false x102000 x102001 x102002 x107000 x107001 x107002 ((rd_T56 x69 x71).f0) ((rd_T56 x69 x71).f1) ((rd_T56 x69 x71).f2))) else (none)) else (none)) else (spec_cuGood.l0 k x3 x26 x27 (wrap64 (x28 + 1)) x102000 x102001 x102002)
def spec_cuGood.j4 : Nat → Int → Int → Int → List (S56) → Int → Int → List (S56) → Int → Int → Bool → Int → Int → List (S56) → Int → Int → Int → Int → Int → Int → Option (Bool)
  | 0, _, _, _, _, _, _, _, _, _, _, _, _, _, _, _, _, _, _, _ => none
  | k + 1, x3, x4, x6, x26, x27, x28, x69, x70, x71, x113, x102000, x102001, x102002, x107000, x107001, x107002, x116000, x116001, x116002 => if x113 = true then (some false) else (if x6 = (wrap64 (x4 - 1)) then ((spec_cuLess.f x116000 x116001 x116002 x107000 x107001 x107002).bind fun t116 => (if t116 = true then (spec_cuGood.l1 k x3 x4 x26 x27 x28 x69 x70 (wrap64 (x71 + 1)) x102000 x102001 x102002 x107000 x107001 x107002) else (some false))) else (spec_cuGood.l1 k x3 x4 x26 x27 x28 x69 x70 (wrap64 (x71 + 1)) x102000 x102001 x102002 x107000 x107001 x107002))
end
def spec_cuGood.f (k : Nat) (a0_0 : Int) (a0_1 : Int) (l0_2 : List (S56)) : Option (Bool) := (spec_l1In.f a0_0 1 500).bind fun t102 => (if t102 = true then ((spec_l1In.f a0_1 1 500).bind fun t103 => (if t103 = true then ((spec_l1In.f (l0_2.length : Int) 1 30).bind fun t104 => (spec_cuGood.j0 k (!t104) a0_0 a0_1 l0_2)) else (spec_cuGood.j0 k true a0_0 a0_1 l0_2))) else (spec_cuGood.j0 k true a0_0 a0_1 l0_2))
set_option maxHeartbeats 8000000 in
set_option maxRecDepth 100000 in
theorem spec_cuGood.calls (k : Nat) (a0_0 : Int) (a0_1 : Int) (A0_2 : Option Addr) (c0_2 : Nat) (l0_2 : List (S56)) (r : Bool) (w : World) (hr0_2 : Kd.C k56 w A0_2 l0_2.length l0_2) (hc0_2 : l0_2.length ≤ c0_2) (h : spec_cuGood.f k a0_0 a0_1 l0_2 = some r) :
    Calls Try.prog 41 #[.agg #[.int .i64 a0_0, .int .i64 a0_1, .slice A0_2 l0_2.length c0_2]] w fun e w' => e = .returned (.bool r) ∧ Below w.heap.size w w' := by
  have hu37 := Try.underlying37
  have hu56 := Try.underlying56
  have HR0_2 := Aside0.mk hr0_2
  have HC0_2 := Aside0.mk hc0_2
  clear hr0_2 hc0_2
  have HB := Aside0.mk (Below.refl w.heap.size w)
  have H : ((spec_l1In.f a0_0 1 500).bind fun t102 => (if t102 = true then ((spec_l1In.f a0_1 1 500).bind fun t103 => (if t103 = true then ((spec_l1In.f (l0_2.length : Int) 1 30).bind fun t104 => (spec_cuGood.j0 k (!t104) a0_0 a0_1 l0_2)) else (spec_cuGood.j0 k true a0_0 a0_1 l0_2))) else (spec_cuGood.j0 k true a0_0 a0_1 l0_2))) = some r := h
  clear h
  have HC2 := Aside0.mk H
  clear H
  go_enter Try.func41, Try.ntmps41
  go_upto_region 1 with (first | ((with_reducible refine gate_dst (N := 1) rfl ?_); (try (refine gate_guard (by rfl) ?_; dsimp only)); refine box_event ?hg (N := 1) ?hd (cs := #[.int .i64 a0_0, .int .i64 a0_1, .slice A0_2 l0_2.length c0_2]) (t := 37) ?hr ?_; (case hd => rfl); (case hg => rfl); (case hr => first | (go_simp; done) | (go_simp; rfl)); intro gb101 hg w3 hbox hb; have n0_ := Aside0.mk (below_step (by repeat (first | (with_reducible first | exact HB.out | apply below_alloc | apply pw_below_drewN | apply below_drew1) | exact HB.out)) hb); have n1_ := Aside0.mk (hbox); have n2_ := Aside0.mk ((by rw [hg]; exact (below_size (by repeat (first | (with_reducible first | exact HB.out | apply below_alloc | apply pw_below_drewN | apply below_drew1) | exact HB.out))) : w.heap.size ≤ gb101)); have n3_ := Aside0.mk ((by rw [hg]; exact (below_size (by repeat (first | (with_reducible first | exact HB.out | apply below_alloc | apply pw_below_drewN | apply below_drew1) | exact HB.out))) : w.heap.size ≤ gb101)); clear HB; have HB := n0_; have BK101 := n1_; have GW101 := n2_; have GE101 := n3_; clear n0_ n1_ n2_ n3_; clear hb hbox hg))
  (try simp only [Act.put, List.setIfInBounds_toArray, List.set_cons_zero, List.set_cons_succ])
  go_cut [24] (fun v24 wc => ∃ (kq : Nat) (x24_1 : Bool), v24 = .bool x24_1 ∧ Aside0 (spec_cuGood.j0 kq x24_1 a0_0 a0_1 l0_2 = some r) ∧ Aside0 (kq ≤ k) ∧ Aside0 (wc.heap[gb101]? = some (.cells #[.int .i64 a0_0, .int .i64 a0_1, (.slice A0_2 l0_2.length c0_2)] 37 (0, 0))) ∧ Aside0 (Below w.heap.size w wc))
  case first =>
    have H := HC2.out
    clear HC2
    replace H := Option.bind_eq_some_iff.mp H
    obtain ⟨t102, A40, H⟩ := H
    replace H : (if t102 = true then ((spec_l1In.f a0_1 1 500).bind fun t103 => (if t103 = true then ((spec_l1In.f (l0_2.length : Int) 1 30).bind fun t104 => (spec_cuGood.j0 k (!t104) a0_0 a0_1 l0_2)) else (spec_cuGood.j0 k true a0_0 a0_1 l0_2))) else (spec_cuGood.j0 k true a0_0 a0_1 l0_2)) = some r := H
    have A4 := Aside0.mk A40
    clear A40
    by_cases c5 : t102 = true
    · subst c5
      have H1 : ((spec_l1In.f a0_1 1 500).bind fun t103 => (if t103 = true then ((spec_l1In.f (l0_2.length : Int) 1 30).bind fun t104 => (spec_cuGood.j0 k (!t104) a0_0 a0_1 l0_2)) else (spec_cuGood.j0 k true a0_0 a0_1 l0_2))) = some r := by rw [if_pos rfl] at H; exact H
      clear H
      have H := H1
      clear H1
      replace H := Option.bind_eq_some_iff.mp H
      obtain ⟨t103, A60, H⟩ := H
      replace H : (if t103 = true then ((spec_l1In.f (l0_2.length : Int) 1 30).bind fun t104 => (spec_cuGood.j0 k (!t104) a0_0 a0_1 l0_2)) else (spec_cuGood.j0 k true a0_0 a0_1 l0_2)) = some r := H
      have A6 := Aside0.mk A60
      clear A60
      by_cases c7 : t103 = true
      · subst c7
        have H1 : ((spec_l1In.f (l0_2.length : Int) 1 30).bind fun t104 => (spec_cuGood.j0 k (!t104) a0_0 a0_1 l0_2)) = some r := by rw [if_pos rfl] at H; exact H
        clear H
        have H := H1
        clear H1
        replace H := Option.bind_eq_some_iff.mp H
        obtain ⟨t104, A80, H⟩ := H
        replace H : (spec_cuGood.j0 k (!t104) a0_0 a0_1 l0_2) = some r := H
        have A8 := Aside0.mk A80
        clear A80
        have H' := Aside0.mk H
        clear H
        have hcz9_0 : w3.cell? ⟨gb101, 0, none⟩ = some (.int .i64 a0_0) := (blk_cell BK101.out 0).trans rfl
        have hcz9_1 : w3.cell? ⟨gb101, 1, none⟩ = some (.int .i64 a0_1) := (blk_cell BK101.out 1).trans rfl
        have hcz9_2 : w3.cell? ⟨gb101, 2, none⟩ = some (.slice A0_2 l0_2.length c0_2) := (blk_cell BK101.out 2).trans rfl
        have hfz9_0 := blk_frozen BK101.out 0
        have hfz9_1 := blk_frozen BK101.out 1
        have hfz9_2 := blk_frozen BK101.out 2
        go_wp2_with (first | ((with_reducible refine gate_callee (f := 30) rfl ?_); refine goesL_ (some 10) rfl rfl Try.func30 (by kernel_rfl) rfl #[.int .i64 a0_0, .int .i64 1, .int .i64 500] rfl (by (try simp only [List.map_toArray, List.map_cons, List.map_nil]); first | done | rfl | (simp only [List.length_drop, List.length_take]; rfl)) ?_; (with_reducible refine (spec_l1In.calls a0_0 1 500 true _ A4.out).mono ?_); rintro e w' ⟨rfl, ⟨nd, rfl⟩⟩; refine ⟨_, rfl, ?_⟩) | (go_at_call 30; (with_reducible refine (spec_l1In.calls a0_1 1 500 true _ A6.out).mono ?_); rintro e w' ⟨rfl, ⟨nd, rfl⟩⟩) | (go_at_call 30; (with_reducible refine (spec_l1In.calls (l0_2.length : Int) 1 30 t104 _ A8.out).mono ?_); rintro e w' ⟨rfl, ⟨nd, rfl⟩⟩))
        go_meet
        case rel => exact ⟨_, (!t104), (by first | rfl | (simp; done) | (simp [*]; done)), H', ⟨by first | omega | exact Nat.le_refl _⟩, ⟨by (with_reducible repeat (first | refine blk_drewN ?_ _ | refine blk_drew ?_ | refine blk_alloc ?_ _)); exact BK101.out⟩, ⟨by repeat (first | (with_reducible first | exact HB.out | apply below_alloc | apply pw_below_drewN | apply below_drew1 | refine below_set ?_ GE101.out) | exact HB.out)⟩⟩
      · replace c7 := Bool.eq_false_iff.mpr c7
        subst c7
        have H1 : (spec_cuGood.j0 k true a0_0 a0_1 l0_2) = some r := by rw [if_neg (show ¬ (false = true) by decide)] at H; exact H
        clear H
        have H := H1
        clear H1
        have H' := Aside0.mk H
        clear H
        have hcz10_0 : w3.cell? ⟨gb101, 0, none⟩ = some (.int .i64 a0_0) := (blk_cell BK101.out 0).trans rfl
        have hcz10_1 : w3.cell? ⟨gb101, 1, none⟩ = some (.int .i64 a0_1) := (blk_cell BK101.out 1).trans rfl
        have hcz10_2 : w3.cell? ⟨gb101, 2, none⟩ = some (.slice A0_2 l0_2.length c0_2) := (blk_cell BK101.out 2).trans rfl
        have hfz10_0 := blk_frozen BK101.out 0
        have hfz10_1 := blk_frozen BK101.out 1
        have hfz10_2 := blk_frozen BK101.out 2
        go_wp2_with (first | ((with_reducible refine gate_callee (f := 30) rfl ?_); refine goesL_ (some 10) rfl rfl Try.func30 (by kernel_rfl) rfl #[.int .i64 a0_0, .int .i64 1, .int .i64 500] rfl (by (try simp only [List.map_toArray, List.map_cons, List.map_nil]); first | done | rfl | (simp only [List.length_drop, List.length_take]; rfl)) ?_; (with_reducible refine (spec_l1In.calls a0_0 1 500 true _ A4.out).mono ?_); rintro e w' ⟨rfl, ⟨nd, rfl⟩⟩; refine ⟨_, rfl, ?_⟩) | (go_at_call 30; (with_reducible refine (spec_l1In.calls a0_1 1 500 false _ A6.out).mono ?_); rintro e w' ⟨rfl, ⟨nd, rfl⟩⟩))
        go_meet
        case rel => exact ⟨_, (true), (by first | rfl | (simp; done) | (simp [*]; done)), H', ⟨by first | omega | exact Nat.le_refl _⟩, ⟨by (with_reducible repeat (first | refine blk_drewN ?_ _ | refine blk_drew ?_ | refine blk_alloc ?_ _)); exact BK101.out⟩, ⟨by repeat (first | (with_reducible first | exact HB.out | apply below_alloc | apply pw_below_drewN | apply below_drew1 | refine below_set ?_ GE101.out) | exact HB.out)⟩⟩
    · replace c5 := Bool.eq_false_iff.mpr c5
      subst c5
      have H1 : (spec_cuGood.j0 k true a0_0 a0_1 l0_2) = some r := by rw [if_neg (show ¬ (false = true) by decide)] at H; exact H
      clear H
      have H := H1
      clear H1
      have H' := Aside0.mk H
      clear H
      have hcz11_0 : w3.cell? ⟨gb101, 0, none⟩ = some (.int .i64 a0_0) := (blk_cell BK101.out 0).trans rfl
      have hcz11_1 : w3.cell? ⟨gb101, 1, none⟩ = some (.int .i64 a0_1) := (blk_cell BK101.out 1).trans rfl
      have hcz11_2 : w3.cell? ⟨gb101, 2, none⟩ = some (.slice A0_2 l0_2.length c0_2) := (blk_cell BK101.out 2).trans rfl
      have hfz11_0 := blk_frozen BK101.out 0
      have hfz11_1 := blk_frozen BK101.out 1
      have hfz11_2 := blk_frozen BK101.out 2
      go_wp2_with (first | ((with_reducible refine gate_callee (f := 30) rfl ?_); refine goesL_ (some 10) rfl rfl Try.func30 (by kernel_rfl) rfl #[.int .i64 a0_0, .int .i64 1, .int .i64 500] rfl (by (try simp only [List.map_toArray, List.map_cons, List.map_nil]); first | done | rfl | (simp only [List.length_drop, List.length_take]; rfl)) ?_; (with_reducible refine (spec_l1In.calls a0_0 1 500 false _ A4.out).mono ?_); rintro e w' ⟨rfl, ⟨nd, rfl⟩⟩; refine ⟨_, rfl, ?_⟩))
      go_meet
      case rel => exact ⟨_, (true), (by first | rfl | (simp; done) | (simp [*]; done)), H', ⟨by first | omega | exact Nat.le_refl _⟩, ⟨by (with_reducible repeat (first | refine blk_drewN ?_ _ | refine blk_drew ?_ | refine blk_alloc ?_ _)); exact BK101.out⟩, ⟨by repeat (first | (with_reducible first | exact HB.out | apply below_alloc | apply pw_below_drewN | apply below_drew1 | refine below_set ?_ GE101.out) | exact HB.out)⟩⟩
  case rest =>
    clear HC2
    try clear p2
    try clear c3
    try clear c4
    try clear c5
    try clear c7
    try clear hcz10_0
    try clear hcz10_1
    try clear hcz10_2
    try clear hcz11_0
    try clear hcz11_1
    try clear hcz11_2
    try clear hcz9_0
    try clear hcz9_1
    try clear hcz9_2
    try clear hfz10_0
    try clear hfz10_1
    try clear hfz10_2
    try clear hfz11_0
    try clear hfz11_1
    try clear hfz11_2
    try clear hfz9_0
    try clear hfz9_1
    try clear hfz9_2
    obtain ⟨kq, x24_1, rfl, HA, HJ1, BK101, HB⟩ := hcut
    cases kq with
    | zero => exact absurd HA.out (by simp [spec_cuGood.j0])
    | succ kj1 =>
      have H := HA.out
      clear HA
      simp only [spec_cuGood.j0] at H
      by_cases c12 : x24_1 = true
      · subst c12
        have H1 : (some false) = some r := by rw [if_pos rfl] at H; exact H
        clear H
        have H := H1
        clear H1
        obtain rfl := Option.some.inj H
        go_wp2
        go_ret
        exact ⟨by first | rfl | (simp [errW_none, errW_some] <;> rfl) | (simp [*, errW_none, errW_some] <;> rfl), by repeat (first | (with_reducible first | exact HB.out | apply below_alloc | apply pw_below_drewN | apply below_drew1 | refine below_set ?_ GE101.out) | exact HB.out)⟩
      · replace c12 := Bool.eq_false_iff.mpr c12
        subst c12
        have H1 : (spec_cuGood.l0 kj1 0 l0_2 (l0_2.length : Int) 0 a0_0 a0_1 l0_2) = some r := by rw [if_neg (show ¬ (false = true) by decide)] at H; exact H
        clear H
        have H := H1
        clear H1
        have H' := Aside0.mk H
        clear H
        have hcz13_0 : wc.cell? ⟨gb101, 0, none⟩ = some (.int .i64 a0_0) := (blk_cell BK101.out 0).trans rfl
        have hcz13_1 : wc.cell? ⟨gb101, 1, none⟩ = some (.int .i64 a0_1) := (blk_cell BK101.out 1).trans rfl
        have hcz13_2 : wc.cell? ⟨gb101, 2, none⟩ = some (.slice A0_2 l0_2.length c0_2) := (blk_cell BK101.out 2).trans rfl
        have hfz13_0 := blk_frozen BK101.out 0
        have hfz13_1 := blk_frozen BK101.out 1
        have hfz13_2 := blk_frozen BK101.out 2
        go_wp2
        go_loopg [3, 28] kj1 (fun kq v3 v28 w' => ∃ (x3_2 : Int) (x28_2 : Int), v3 = .int .i64 x3_2 ∧ v28 = .int .i64 x28_2 ∧ Aside0 (spec_cuGood.l0 kq x3_2 l0_2 (l0_2.length : Int) x28_2 a0_0 a0_1 l0_2 = some r) ∧ Aside0 (kq ≤ kj1) ∧ Aside0 (w'.heap[gb101]? = some (.cells #[.int .i64 a0_0, .int .i64 a0_1, (.slice A0_2 l0_2.length c0_2)] 37 (0, 0))) ∧ Aside0 (Below w.heap.size w w'))
        case atStart => exact ⟨(0), (0), (by first | rfl | (simp; done) | (simp [*]; done)), (by first | rfl | (simp; done) | (simp [*]; done)), H', ⟨Nat.le_refl _⟩, ⟨by (with_reducible repeat (first | refine blk_drewN ?_ _ | refine blk_drew ?_ | refine blk_alloc ?_ _)); exact BK101.out⟩, ⟨by repeat (first | (with_reducible first | exact HB.out | apply below_alloc | apply pw_below_drewN | apply below_drew1 | refine below_set ?_ GE101.out) | exact HB.out)⟩⟩
        case round =>
          clear H'
          try clear c1
          try clear p2
          try clear c3
          try clear c4
          try clear c5
          try clear c7
          try clear c12
          try clear hcz10_0
          try clear hcz10_1
          try clear hcz10_2
          try clear hcz11_0
          try clear hcz11_1
          try clear hcz11_2
          try clear hcz13_0
          try clear hcz13_1
          try clear hcz13_2
          try clear hcz9_0
          try clear hcz9_1
          try clear hcz9_2
          try clear hfz10_0
          try clear hfz10_1
          try clear hfz10_2
          try clear hfz11_0
          try clear hfz11_1
          try clear hfz11_2
          try clear hfz13_0
          try clear hfz13_1
          try clear hfz13_2
          try clear hfz9_0
          try clear hfz9_1
          try clear hfz9_2
          try clear p2
          obtain ⟨x3_2, x28_2, rfl, rfl, HA, HK2, BK101, HB⟩ := hrel
          cases gk with
          | zero => exact absurd HA.out (by simp [spec_cuGood.l0])
          | succ k2 =>
            have H := HA.out
            clear HA
            simp only [spec_cuGood.l0] at H
            by_cases c14 : x28_2 < (l0_2.length : Int)
            · rw [if_pos c14] at H
              have c14b0 : decide (x28_2 < (l0_2.length : Int)) = true := decide_eq_true c14
              clear c14
              by_cases c15 : 0 ≤ x28_2
              · rw [if_pos c15] at H
                have c15b0 : decide (0 ≤ x28_2) = true := decide_eq_true c15
                clear c15
                by_cases c16 : x28_2 < (l0_2.length : Int)
                · rw [if_pos c16] at H
                  have c16b0 : decide (x28_2 < (l0_2.length : Int)) = true := decide_eq_true c16
                  clear c16
                  have HC17 := Aside0.mk H
                  clear H
                  have p105 : 0 ≤ (x28_2 : Int) := of_decide_eq_true (by first | (with_reducible assumption) | assumption)
                  have q105 : x28_2 < (l0_2.length : Int) := of_decide_eq_true (by first | (with_reducible assumption) | assumption)
                  obtain ⟨ad105, e105, hx105_0, hx105_1, hx105_2⟩ := at_T56 HR0_2.out x28_2 p105 q105
                  cases e105
                  replace hx105_0 := (HB.out.cell (World.block_lt_of_cell? w _ hx105_0)).trans hx105_0
                  replace hx105_1 := (HB.out.cell (World.block_lt_of_cell? w _ hx105_1)).trans hx105_1
                  replace hx105_2 := (HB.out.cell (World.block_lt_of_cell? w _ hx105_2)).trans hx105_2
                  replace p105 := eq_true p105
                  replace q105 := eq_true q105
                  go_upto_region 7 with (first | ((with_reducible refine gate_dst (N := 5) rfl ?_); (try (refine gate_guard (by rfl) ?_; dsimp only)); refine box_event ?hg (N := 5) ?hd (cs := #[.int .i64 0, .int .i64 0, .int .i64 0]) (t := 56) ?hr ?_; (case hd => rfl); (case hg => rfl); (case hr => first | (go_simp; done) | (go_simp; rfl)); intro gb106 hg w18 hbox hb; have n0_ := Aside0.mk (blk_below (g := gb101) (o := .cells #[.int .i64 a0_0, .int .i64 a0_1, .slice (some ad105) l0_2.length c0_2] 37 (0, 0)) (by (with_reducible repeat (first | refine blk_drewN ?_ _ | refine blk_drew ?_ | refine blk_alloc ?_ _)); exact BK101.out) hb); have n1_ := Aside0.mk (below_step (by repeat (first | (with_reducible first | exact HB.out | apply below_alloc | apply pw_below_drewN | apply below_drew1 | refine below_set ?_ GE101.out) | exact HB.out)) hb); have n2_ := Aside0.mk (hbox); have n3_ := Aside0.mk ((by rw [hg]; exact (below_size (by repeat (first | (with_reducible first | exact HB.out | apply below_alloc | apply pw_below_drewN | apply below_drew1 | refine below_set ?_ GE101.out) | exact HB.out))) : w.heap.size ≤ gb106)); have n4_ := Aside0.mk ((by rw [hg]; exact (below_size (by repeat (first | (with_reducible first | exact HB.out | apply below_alloc | apply pw_below_drewN | apply below_drew1 | refine below_set ?_ GE101.out) | exact HB.out))) : w.heap.size ≤ gb106)); have n5_ := Aside0.mk ((by rw [hg]; exact Nat.ne_of_lt (blk_lt (g := gb101) (o := .cells #[.int .i64 a0_0, .int .i64 a0_1, .slice (some ad105) l0_2.length c0_2] 37 (0, 0)) (by (with_reducible repeat (first | refine blk_drewN ?_ _ | refine blk_drew ?_ | refine blk_alloc ?_ _)); exact BK101.out)) : gb101 ≠ gb106)); have n6_ := Aside0.mk ((by rw [hg]; exact Nat.ne_of_gt (blk_lt (g := gb101) (o := .cells #[.int .i64 a0_0, .int .i64 a0_1, .slice (some ad105) l0_2.length c0_2] 37 (0, 0)) (by (with_reducible repeat (first | refine blk_drewN ?_ _ | refine blk_drew ?_ | refine blk_alloc ?_ _)); exact BK101.out)) : gb106 ≠ gb101)); clear BK101; clear HB; have BK101 := n0_; have HB := n1_; have BK106 := n2_; have GW106 := n3_; have GE106 := n4_; have NB101_106 := n5_; have NB106_101 := n6_; clear n0_ n1_ n2_ n3_ n4_ n5_ n6_; clear hb hbox hg; have hnb19 := NB106_101.out; have hnc19 := NB101_106.out; have hcz20_0 : w18.cell? ⟨gb106, 0, none⟩ = some (.int .i64 0) := (blk_cell BK106.out 0).trans rfl; have hcz20_1 : w18.cell? ⟨gb106, 1, none⟩ = some (.int .i64 0) := (blk_cell BK106.out 1).trans rfl; have hcz20_2 : w18.cell? ⟨gb106, 2, none⟩ = some (.int .i64 0) := (blk_cell BK106.out 2).trans rfl; have hfz20_0 := blk_frozen BK106.out 0; have hfz20_1 := blk_frozen BK106.out 1; have hfz20_2 := blk_frozen BK106.out 2))
                  (try simp only [Act.put, List.setIfInBounds_toArray, List.set_cons_zero, List.set_cons_succ])
                  go_cut [58] (fun v58 wc => ∃ (kq : Nat) (x58_16 : Bool), v58 = .bool x58_16 ∧ Aside0 (spec_cuGood.j2 kq x3_2 x28_2 l0_2 (l0_2.length : Int) x28_2 x58_16 a0_0 a0_1 l0_2 ((rd_T56 l0_2 x28_2).f0) ((rd_T56 l0_2 x28_2).f1) ((rd_T56 l0_2 x28_2).f2) = some r) ∧ Aside0 (kq ≤ k2) ∧ Aside0 (wc.heap[gb101]? = some (.cells #[.int .i64 a0_0, .int .i64 a0_1, (.slice (some ad105) l0_2.length c0_2)] 37 (0, 0))) ∧ Aside0 (wc.heap[gb106]? = some (.cells #[.int .i64 ((rd_T56 l0_2 x28_2).f0), .int .i64 ((rd_T56 l0_2 x28_2).f1), .int .i64 ((rd_T56 l0_2 x28_2).f2)] 56 (0, 0))) ∧ Aside0 (Below w.heap.size w wc))
                  case first =>
                    have H := HC17.out
                    clear HC17
                    replace H := Option.bind_eq_some_iff.mp H
                    obtain ⟨t107, A210, H⟩ := H
                    replace H : (if t107 = true then ((spec_l1In.f ((rd_T56 l0_2 x28_2).f0) 0 (wrap64 (a0_0 - ((rd_T56 l0_2 x28_2).f2)))).bind fun t108 => (if t108 = true then ((spec_l1In.f ((rd_T56 l0_2 x28_2).f1) 0 (wrap64 (a0_1 - ((rd_T56 l0_2 x28_2).f2)))).bind fun t109 => (spec_cuGood.j2 k2 x3_2 x28_2 l0_2 (l0_2.length : Int) x28_2 (!t109) a0_0 a0_1 l0_2 ((rd_T56 l0_2 x28_2).f0) ((rd_T56 l0_2 x28_2).f1) ((rd_T56 l0_2 x28_2).f2))) else (spec_cuGood.j2 k2 x3_2 x28_2 l0_2 (l0_2.length : Int) x28_2 true a0_0 a0_1 l0_2 ((rd_T56 l0_2 x28_2).f0) ((rd_T56 l0_2 x28_2).f1) ((rd_T56 l0_2 x28_2).f2)))) else (spec_cuGood.j2 k2 x3_2 x28_2 l0_2 (l0_2.length : Int) x28_2 true a0_0 a0_1 l0_2 ((rd_T56 l0_2 x28_2).f0) ((rd_T56 l0_2 x28_2).f1) ((rd_T56 l0_2 x28_2).f2))) = some r := H
                    have A21 := Aside0.mk A210
                    clear A210
                    by_cases c22 : t107 = true
                    · subst c22
                      have H1 : ((spec_l1In.f ((rd_T56 l0_2 x28_2).f0) 0 (wrap64 (a0_0 - ((rd_T56 l0_2 x28_2).f2)))).bind fun t108 => (if t108 = true then ((spec_l1In.f ((rd_T56 l0_2 x28_2).f1) 0 (wrap64 (a0_1 - ((rd_T56 l0_2 x28_2).f2)))).bind fun t109 => (spec_cuGood.j2 k2 x3_2 x28_2 l0_2 (l0_2.length : Int) x28_2 (!t109) a0_0 a0_1 l0_2 ((rd_T56 l0_2 x28_2).f0) ((rd_T56 l0_2 x28_2).f1) ((rd_T56 l0_2 x28_2).f2))) else (spec_cuGood.j2 k2 x3_2 x28_2 l0_2 (l0_2.length : Int) x28_2 true a0_0 a0_1 l0_2 ((rd_T56 l0_2 x28_2).f0) ((rd_T56 l0_2 x28_2).f1) ((rd_T56 l0_2 x28_2).f2)))) = some r := by rw [if_pos rfl] at H; exact H
                      clear H
                      have H := H1
                      clear H1
                      replace H := Option.bind_eq_some_iff.mp H
                      obtain ⟨t108, A230, H⟩ := H
                      replace H : (if t108 = true then ((spec_l1In.f ((rd_T56 l0_2 x28_2).f1) 0 (wrap64 (a0_1 - ((rd_T56 l0_2 x28_2).f2)))).bind fun t109 => (spec_cuGood.j2 k2 x3_2 x28_2 l0_2 (l0_2.length : Int) x28_2 (!t109) a0_0 a0_1 l0_2 ((rd_T56 l0_2 x28_2).f0) ((rd_T56 l0_2 x28_2).f1) ((rd_T56 l0_2 x28_2).f2))) else (spec_cuGood.j2 k2 x3_2 x28_2 l0_2 (l0_2.length : Int) x28_2 true a0_0 a0_1 l0_2 ((rd_T56 l0_2 x28_2).f0) ((rd_T56 l0_2 x28_2).f1) ((rd_T56 l0_2 x28_2).f2))) = some r := H
                      have A23 := Aside0.mk A230
                      clear A230
                      by_cases c24 : t108 = true
                      · subst c24
                        have H1 : ((spec_l1In.f ((rd_T56 l0_2 x28_2).f1) 0 (wrap64 (a0_1 - ((rd_T56 l0_2 x28_2).f2)))).bind fun t109 => (spec_cuGood.j2 k2 x3_2 x28_2 l0_2 (l0_2.length : Int) x28_2 (!t109) a0_0 a0_1 l0_2 ((rd_T56 l0_2 x28_2).f0) ((rd_T56 l0_2 x28_2).f1) ((rd_T56 l0_2 x28_2).f2))) = some r := by rw [if_pos rfl] at H; exact H
                        clear H
                        have H := H1
                        clear H1
                        replace H := Option.bind_eq_some_iff.mp H
                        obtain ⟨t109, A250, H⟩ := H
                        replace H : (spec_cuGood.j2 k2 x3_2 x28_2 l0_2 (l0_2.length : Int) x28_2 (!t109) a0_0 a0_1 l0_2 ((rd_T56 l0_2 x28_2).f0) ((rd_T56 l0_2 x28_2).f1) ((rd_T56 l0_2 x28_2).f2)) = some r := H
                        have A25 := Aside0.mk A250
                        clear A250
                        have H' := Aside0.mk H
                        clear H
                        have hnb26 := NB106_101.out
                        have hnc26 := NB101_106.out
                        have hcz27_0 : w18.cell? ⟨gb106, 0, none⟩ = some (.int .i64 0) := (blk_cell BK106.out 0).trans rfl
                        have hcz27_1 : w18.cell? ⟨gb106, 1, none⟩ = some (.int .i64 0) := (blk_cell BK106.out 1).trans rfl
                        have hcz27_2 : w18.cell? ⟨gb106, 2, none⟩ = some (.int .i64 0) := (blk_cell BK106.out 2).trans rfl
                        have hfz27_0 := blk_frozen BK106.out 0
                        have hfz27_1 := blk_frozen BK106.out 1
                        have hfz27_2 := blk_frozen BK106.out 2
                        go_wp2_with (first | ((with_reducible refine gate_callee (f := 30) rfl ?_); refine goesL_ (some 35) rfl rfl Try.func30 (by kernel_rfl) rfl #[.int .i64 ((rd_T56 l0_2 x28_2).f2), .int .i64 1, .int .i64 500] rfl (by (try simp only [List.map_toArray, List.map_cons, List.map_nil]); first | done | rfl | (simp only [List.length_drop, List.length_take]; rfl)) ?_; (with_reducible refine (spec_l1In.calls ((rd_T56 l0_2 x28_2).f2) 1 500 true _ A21.out).mono ?_); rintro e w' ⟨rfl, ⟨nd, rfl⟩⟩; refine ⟨_, rfl, ?_⟩; have hcz28_0 : w18.cell? ⟨gb101, 0, none⟩ = some (.int .i64 a0_0) := (blk_cell BK101.out 0).trans rfl; have hcz28_1 : w18.cell? ⟨gb101, 1, none⟩ = some (.int .i64 a0_1) := (blk_cell BK101.out 1).trans rfl; have hcz28_2 : w18.cell? ⟨gb101, 2, none⟩ = some (.slice (some ad105) l0_2.length c0_2) := (blk_cell BK101.out 2).trans rfl; have hfz28_0 := blk_frozen BK101.out 0; have hfz28_1 := blk_frozen BK101.out 1; have hfz28_2 := blk_frozen BK101.out 2) | (go_at_call 30; (with_reducible refine (spec_l1In.calls ((rd_T56 l0_2 x28_2).f0) 0 (wrap64 (a0_0 - ((rd_T56 l0_2 x28_2).f2))) true _ A23.out).mono ?_); rintro e w' ⟨rfl, ⟨nd, rfl⟩⟩) | (go_at_call 30; (with_reducible refine (spec_l1In.calls ((rd_T56 l0_2 x28_2).f1) 0 (wrap64 (a0_1 - ((rd_T56 l0_2 x28_2).f2))) t109 _ A25.out).mono ?_); rintro e w' ⟨rfl, ⟨nd, rfl⟩⟩))
                        go_meet
                        case rel => exact ⟨_, (!t109), (by first | rfl | (simp; done) | (simp [*]; done)), H', ⟨by have := HJ1.out; have := HK2.out; first | omega | exact Nat.le_refl _⟩, ⟨by (with_reducible repeat (first | refine blk_drewN ?_ _ | refine blk_drew ?_ | refine blk_alloc ?_ _)); refine blk_far ?_ NB101_106.out _; (with_reducible repeat (first | refine blk_drewN ?_ _ | refine blk_drew ?_ | refine blk_alloc ?_ _)); refine blk_far ?_ NB101_106.out _; (with_reducible repeat (first | refine blk_drewN ?_ _ | refine blk_drew ?_ | refine blk_alloc ?_ _)); refine blk_far ?_ NB101_106.out _; (with_reducible repeat (first | refine blk_drewN ?_ _ | refine blk_drew ?_ | refine blk_alloc ?_ _)); exact BK101.out⟩, ⟨by (with_reducible repeat (first | refine blk_drewN ?_ _ | refine blk_drew ?_ | refine blk_alloc ?_ _)); refine blk_put (cs := #[.int .i64 ((rd_T56 l0_2 x28_2).f0), .int .i64 ((rd_T56 l0_2 x28_2).f1), .int .i64 0]) ?_ 2 _ rfl; (with_reducible repeat (first | refine blk_drewN ?_ _ | refine blk_drew ?_ | refine blk_alloc ?_ _)); refine blk_put (cs := #[.int .i64 ((rd_T56 l0_2 x28_2).f0), .int .i64 0, .int .i64 0]) ?_ 1 _ rfl; (with_reducible repeat (first | refine blk_drewN ?_ _ | refine blk_drew ?_ | refine blk_alloc ?_ _)); refine blk_put (cs := #[.int .i64 0, .int .i64 0, .int .i64 0]) ?_ 0 _ rfl; (with_reducible repeat (first | refine blk_drewN ?_ _ | refine blk_drew ?_ | refine blk_alloc ?_ _)); exact BK106.out⟩, ⟨by repeat (first | (with_reducible first | exact HB.out | apply below_alloc | apply pw_below_drewN | apply below_drew1 | refine below_set ?_ GE101.out | refine below_set ?_ GE106.out) | exact HB.out)⟩⟩
                      · replace c24 := Bool.eq_false_iff.mpr c24
                        subst c24
                        have H1 : (spec_cuGood.j2 k2 x3_2 x28_2 l0_2 (l0_2.length : Int) x28_2 true a0_0 a0_1 l0_2 ((rd_T56 l0_2 x28_2).f0) ((rd_T56 l0_2 x28_2).f1) ((rd_T56 l0_2 x28_2).f2)) = some r := by rw [if_neg (show ¬ (false = true) by decide)] at H; exact H
                        clear H
                        have H := H1
                        clear H1
                        have H' := Aside0.mk H
                        clear H
                        have hnb29 := NB106_101.out
                        have hnc29 := NB101_106.out
                        have hcz30_0 : w18.cell? ⟨gb106, 0, none⟩ = some (.int .i64 0) := (blk_cell BK106.out 0).trans rfl
                        have hcz30_1 : w18.cell? ⟨gb106, 1, none⟩ = some (.int .i64 0) := (blk_cell BK106.out 1).trans rfl
                        have hcz30_2 : w18.cell? ⟨gb106, 2, none⟩ = some (.int .i64 0) := (blk_cell BK106.out 2).trans rfl
                        have hfz30_0 := blk_frozen BK106.out 0
                        have hfz30_1 := blk_frozen BK106.out 1
                        have hfz30_2 := blk_frozen BK106.out 2
                        go_wp2_with (first | ((with_reducible refine gate_callee (f := 30) rfl ?_); refine goesL_ (some 35) rfl rfl Try.func30 (by kernel_rfl) rfl #[.int .i64 ((rd_T56 l0_2 x28_2).f2), .int .i64 1, .int .i64 500] rfl (by (try simp only [List.map_toArray, List.map_cons, List.map_nil]); first | done | rfl | (simp only [List.length_drop, List.length_take]; rfl)) ?_; (with_reducible refine (spec_l1In.calls ((rd_T56 l0_2 x28_2).f2) 1 500 true _ A21.out).mono ?_); rintro e w' ⟨rfl, ⟨nd, rfl⟩⟩; refine ⟨_, rfl, ?_⟩; have hcz31_0 : w18.cell? ⟨gb101, 0, none⟩ = some (.int .i64 a0_0) := (blk_cell BK101.out 0).trans rfl; have hcz31_1 : w18.cell? ⟨gb101, 1, none⟩ = some (.int .i64 a0_1) := (blk_cell BK101.out 1).trans rfl; have hcz31_2 : w18.cell? ⟨gb101, 2, none⟩ = some (.slice (some ad105) l0_2.length c0_2) := (blk_cell BK101.out 2).trans rfl; have hfz31_0 := blk_frozen BK101.out 0; have hfz31_1 := blk_frozen BK101.out 1; have hfz31_2 := blk_frozen BK101.out 2) | (go_at_call 30; (with_reducible refine (spec_l1In.calls ((rd_T56 l0_2 x28_2).f0) 0 (wrap64 (a0_0 - ((rd_T56 l0_2 x28_2).f2))) false _ A23.out).mono ?_); rintro e w' ⟨rfl, ⟨nd, rfl⟩⟩))
                        go_meet
                        case rel => exact ⟨_, (true), (by first | rfl | (simp; done) | (simp [*]; done)), H', ⟨by have := HJ1.out; have := HK2.out; first | omega | exact Nat.le_refl _⟩, ⟨by (with_reducible repeat (first | refine blk_drewN ?_ _ | refine blk_drew ?_ | refine blk_alloc ?_ _)); refine blk_far ?_ NB101_106.out _; (with_reducible repeat (first | refine blk_drewN ?_ _ | refine blk_drew ?_ | refine blk_alloc ?_ _)); refine blk_far ?_ NB101_106.out _; (with_reducible repeat (first | refine blk_drewN ?_ _ | refine blk_drew ?_ | refine blk_alloc ?_ _)); refine blk_far ?_ NB101_106.out _; (with_reducible repeat (first | refine blk_drewN ?_ _ | refine blk_drew ?_ | refine blk_alloc ?_ _)); exact BK101.out⟩, ⟨by (with_reducible repeat (first | refine blk_drewN ?_ _ | refine blk_drew ?_ | refine blk_alloc ?_ _)); refine blk_put (cs := #[.int .i64 ((rd_T56 l0_2 x28_2).f0), .int .i64 ((rd_T56 l0_2 x28_2).f1), .int .i64 0]) ?_ 2 _ rfl; (with_reducible repeat (first | refine blk_drewN ?_ _ | refine blk_drew ?_ | refine blk_alloc ?_ _)); refine blk_put (cs := #[.int .i64 ((rd_T56 l0_2 x28_2).f0), .int .i64 0, .int .i64 0]) ?_ 1 _ rfl; (with_reducible repeat (first | refine blk_drewN ?_ _ | refine blk_drew ?_ | refine blk_alloc ?_ _)); refine blk_put (cs := #[.int .i64 0, .int .i64 0, .int .i64 0]) ?_ 0 _ rfl; (with_reducible repeat (first | refine blk_drewN ?_ _ | refine blk_drew ?_ | refine blk_alloc ?_ _)); exact BK106.out⟩, ⟨by repeat (first | (with_reducible first | exact HB.out | apply below_alloc | apply pw_below_drewN | apply below_drew1 | refine below_set ?_ GE101.out | refine below_set ?_ GE106.out) | exact HB.out)⟩⟩
                    · replace c22 := Bool.eq_false_iff.mpr c22
                      subst c22
                      have H1 : (spec_cuGood.j2 k2 x3_2 x28_2 l0_2 (l0_2.length : Int) x28_2 true a0_0 a0_1 l0_2 ((rd_T56 l0_2 x28_2).f0) ((rd_T56 l0_2 x28_2).f1) ((rd_T56 l0_2 x28_2).f2)) = some r := by rw [if_neg (show ¬ (false = true) by decide)] at H; exact H
                      clear H
                      have H := H1
                      clear H1
                      have H' := Aside0.mk H
                      clear H
                      have hnb32 := NB106_101.out
                      have hnc32 := NB101_106.out
                      have hcz33_0 : w18.cell? ⟨gb106, 0, none⟩ = some (.int .i64 0) := (blk_cell BK106.out 0).trans rfl
                      have hcz33_1 : w18.cell? ⟨gb106, 1, none⟩ = some (.int .i64 0) := (blk_cell BK106.out 1).trans rfl
                      have hcz33_2 : w18.cell? ⟨gb106, 2, none⟩ = some (.int .i64 0) := (blk_cell BK106.out 2).trans rfl
                      have hfz33_0 := blk_frozen BK106.out 0
                      have hfz33_1 := blk_frozen BK106.out 1
                      have hfz33_2 := blk_frozen BK106.out 2
                      go_wp2_with (first | ((with_reducible refine gate_callee (f := 30) rfl ?_); refine goesL_ (some 35) rfl rfl Try.func30 (by kernel_rfl) rfl #[.int .i64 ((rd_T56 l0_2 x28_2).f2), .int .i64 1, .int .i64 500] rfl (by (try simp only [List.map_toArray, List.map_cons, List.map_nil]); first | done | rfl | (simp only [List.length_drop, List.length_take]; rfl)) ?_; (with_reducible refine (spec_l1In.calls ((rd_T56 l0_2 x28_2).f2) 1 500 false _ A21.out).mono ?_); rintro e w' ⟨rfl, ⟨nd, rfl⟩⟩; refine ⟨_, rfl, ?_⟩))
                      go_meet
                      case rel => exact ⟨_, (true), (by first | rfl | (simp; done) | (simp [*]; done)), H', ⟨by have := HJ1.out; have := HK2.out; first | omega | exact Nat.le_refl _⟩, ⟨by (with_reducible repeat (first | refine blk_drewN ?_ _ | refine blk_drew ?_ | refine blk_alloc ?_ _)); refine blk_far ?_ NB101_106.out _; (with_reducible repeat (first | refine blk_drewN ?_ _ | refine blk_drew ?_ | refine blk_alloc ?_ _)); refine blk_far ?_ NB101_106.out _; (with_reducible repeat (first | refine blk_drewN ?_ _ | refine blk_drew ?_ | refine blk_alloc ?_ _)); refine blk_far ?_ NB101_106.out _; (with_reducible repeat (first | refine blk_drewN ?_ _ | refine blk_drew ?_ | refine blk_alloc ?_ _)); exact BK101.out⟩, ⟨by (with_reducible repeat (first | refine blk_drewN ?_ _ | refine blk_drew ?_ | refine blk_alloc ?_ _)); refine blk_put (cs := #[.int .i64 ((rd_T56 l0_2 x28_2).f0), .int .i64 ((rd_T56 l0_2 x28_2).f1), .int .i64 0]) ?_ 2 _ rfl; (with_reducible repeat (first | refine blk_drewN ?_ _ | refine blk_drew ?_ | refine blk_alloc ?_ _)); refine blk_put (cs := #[.int .i64 ((rd_T56 l0_2 x28_2).f0), .int .i64 0, .int .i64 0]) ?_ 1 _ rfl; (with_reducible repeat (first | refine blk_drewN ?_ _ | refine blk_drew ?_ | refine blk_alloc ?_ _)); refine blk_put (cs := #[.int .i64 0, .int .i64 0, .int .i64 0]) ?_ 0 _ rfl; (with_reducible repeat (first | refine blk_drewN ?_ _ | refine blk_drew ?_ | refine blk_alloc ?_ _)); exact BK106.out⟩, ⟨by repeat (first | (with_reducible first | exact HB.out | apply below_alloc | apply pw_below_drewN | apply below_drew1 | refine below_set ?_ GE101.out | refine below_set ?_ GE106.out) | exact HB.out)⟩⟩
                  case rest =>
                    clear HC17
                    try clear c1
                    try clear p1
                    try clear q1
                    try clear hx1
                    try clear c2
                    try clear p2
                    try clear c3
                    try clear c4
                    try clear c5
                    try clear p6
                    try clear c7
                    try clear p10
                    try clear q10
                    try clear hx10
                    try clear c12
                    try clear c14
                    try clear c14b0
                    try clear c15
                    try clear c15b0
                    try clear c16
                    try clear c16b0
                    try clear c19
                    try clear c22
                    try clear c24
                    try clear c26
                    try clear c29
                    try clear c30
                    try clear c32
                    try clear hcz10_0
                    try clear hcz10_1
                    try clear hcz10_2
                    try clear hcz11_0
                    try clear hcz11_1
                    try clear hcz11_2
                    try clear hcz13_0
                    try clear hcz13_1
                    try clear hcz13_2
                    try clear hcz20_0
                    try clear hcz20_1
                    try clear hcz20_2
                    try clear hcz27_0
                    try clear hcz27_1
                    try clear hcz27_2
                    try clear hcz28_0
                    try clear hcz28_1
                    try clear hcz28_2
                    try clear hcz30_0
                    try clear hcz30_1
                    try clear hcz30_2
                    try clear hcz31_0
                    try clear hcz31_1
                    try clear hcz31_2
                    try clear hcz33_0
                    try clear hcz33_1
                    try clear hcz33_2
                    try clear hcz9_0
                    try clear hcz9_1
                    try clear hcz9_2
                    try clear hfz10_0
                    try clear hfz10_1
                    try clear hfz10_2
                    try clear hfz11_0
                    try clear hfz11_1
                    try clear hfz11_2
                    try clear hfz13_0
                    try clear hfz13_1
                    try clear hfz13_2
                    try clear hfz20_0
                    try clear hfz20_1
                    try clear hfz20_2
                    try clear hfz27_0
                    try clear hfz27_1
                    try clear hfz27_2
                    try clear hfz28_0
                    try clear hfz28_1
                    try clear hfz28_2
                    try clear hfz30_0
                    try clear hfz30_1
                    try clear hfz30_2
                    try clear hfz31_0
                    try clear hfz31_1
                    try clear hfz31_2
                    try clear hfz33_0
                    try clear hfz33_1
                    try clear hfz33_2
                    try clear hfz9_0
                    try clear hfz9_1
                    try clear hfz9_2
                    try clear hx105_0
                    try clear hx105_1
                    try clear hx105_2
                    try clear p105
                    try clear p2
                    try clear q105
                    obtain ⟨kq, x58_16, rfl, HA, HJ16, BK101, BK106, HB⟩ := hcut
                    cases kq with
                    | zero => exact absurd HA.out (by simp [spec_cuGood.j2])
                    | succ kj16 =>
                      have H := HA.out
                      clear HA
                      simp only [spec_cuGood.j2] at H
                      by_cases c34 : x58_16 = true
                      · subst c34
                        have H1 : (some false) = some r := by rw [if_pos rfl] at H; exact H
                        clear H
                        have H := H1
                        clear H1
                        obtain rfl := Option.some.inj H
                        go_wp2
                        go_ret
                        exact ⟨by first | rfl | (simp [errW_none, errW_some] <;> rfl) | (simp [*, errW_none, errW_some] <;> rfl), by repeat (first | (with_reducible first | exact HB.out | apply below_alloc | apply pw_below_drewN | apply below_drew1 | refine below_set ?_ GE101.out | refine below_set ?_ GE106.out) | exact HB.out)⟩
                      · replace c34 := Bool.eq_false_iff.mpr c34
                        subst c34
                        have H1 : (if 0 ≤ x28_2 then (if x28_2 ≤ (l0_2.length : Int) then ((some (l0_2.take (x28_2 : Int).toNat : List (S56))).bind fun y110 => (spec_cuGood.l1 kj16 (wrap64 (x3_2 + (wrap64 (((rd_T56 l0_2 x28_2).f2) * ((rd_T56 l0_2 x28_2).f2))))) x28_2 l0_2 (l0_2.length : Int) x28_2 y110 (y110.length : Int) 0 a0_0 a0_1 l0_2 ((rd_T56 l0_2 x28_2).f0) ((rd_T56 l0_2 x28_2).f1) ((rd_T56 l0_2 x28_2).f2))) else (none)) else (none)) = some r := by rw [if_neg (show ¬ (false = true) by decide)] at H; exact H
                        clear H
                        have H := H1
                        clear H1
                        by_cases c35 : 0 ≤ x28_2
                        · rw [if_pos c35] at H
                          have c35b0 := eq_true c35
                          have c35b1 : decide (0 ≤ x28_2) = true := decide_eq_true c35
                          clear c35
                          by_cases c36 : x28_2 ≤ (l0_2.length : Int)
                          · rw [if_pos c36] at H
                            have c36b0 := eq_true c36
                            have c36b1 : decide (x28_2 ≤ (l0_2.length : Int)) = true := decide_eq_true c36
                            clear c36
                            obtain ⟨y110, hy110⟩ : ∃ y_ : List (S56), y_ = (l0_2.take (x28_2 : Int).toNat) := ⟨_, rfl⟩
                            replace H : (spec_cuGood.l1 kj16 (wrap64 (x3_2 + (wrap64 (((rd_T56 l0_2 x28_2).f2) * ((rd_T56 l0_2 x28_2).f2))))) x28_2 l0_2 (l0_2.length : Int) x28_2 y110 (y110.length : Int) 0 a0_0 a0_1 l0_2 ((rd_T56 l0_2 x28_2).f0) ((rd_T56 l0_2 x28_2).f1) ((rd_T56 l0_2 x28_2).f2)) = some r := by first | (rw [hy110]; with_reducible exact H) | (have H2_ := (Option.bind_some _ _).symm.trans H; rw [hy110]; with_reducible exact H2_) | (have H2_ := (Option.bind_some _ _).symm.trans H; with_reducible exact H2_) | with_reducible exact H | (rw [hy110]; exact H) | exact H
                            have Ny110 := Aside0.mk hy110
                            clear hy110
                            have H' := Aside0.mk H
                            clear H
                            have hnb37 := NB106_101.out
                            have hnc37 := NB101_106.out
                            have hcz38_0 : wc.cell? ⟨gb106, 0, none⟩ = some (.int .i64 ((rd_T56 l0_2 x28_2).f0)) := (blk_cell BK106.out 0).trans rfl
                            have hcz38_1 : wc.cell? ⟨gb106, 1, none⟩ = some (.int .i64 ((rd_T56 l0_2 x28_2).f1)) := (blk_cell BK106.out 1).trans rfl
                            have hcz38_2 : wc.cell? ⟨gb106, 2, none⟩ = some (.int .i64 ((rd_T56 l0_2 x28_2).f2)) := (blk_cell BK106.out 2).trans rfl
                            have hfz38_0 := blk_frozen BK106.out 0
                            have hfz38_1 := blk_frozen BK106.out 1
                            have hfz38_2 := blk_frozen BK106.out 2
                            have hcz39_0 : wc.cell? ⟨gb101, 0, none⟩ = some (.int .i64 a0_0) := (blk_cell BK101.out 0).trans rfl
                            have hcz39_1 : wc.cell? ⟨gb101, 1, none⟩ = some (.int .i64 a0_1) := (blk_cell BK101.out 1).trans rfl
                            have hcz39_2 : wc.cell? ⟨gb101, 2, none⟩ = some (.slice (some ad105) l0_2.length c0_2) := (blk_cell BK101.out 2).trans rfl
                            have hfz39_0 := blk_frozen BK101.out 0
                            have hfz39_1 := blk_frozen BK101.out 1
                            have hfz39_2 := blk_frozen BK101.out 2
                            have q40 : (x28_2 : Int) ≤ ((l0_2.length : Int) : Int) := of_decide_eq_true (by first | (with_reducible assumption) | assumption)
                            obtain ⟨i040, hi040, _, hsz40, _⟩ := info_parts info56
                            have hroom40 : l0_2.length ≤ c0_2 := HC0_2.out
                            have hC40 : Kd.C k56 _ (some ad105) l0_2.length l0_2 := HR0_2.out
                            have hcut40 := cut_to (P := Try.prog) 35 56 .i64 Try.underlying35 hi040 (some ad105) l0_2.length c0_2 x28_2 (of_decide_eq_true (by first | (with_reducible assumption) | assumption)) q40 hroom40
                            have hr40 := Kd.C_take (m := (x28_2 : Int).toNat) hC40 (by omega)
                            have hy40 : y110.length = (x28_2 : Int).toNat := (by rw [Ny110.out, List.length_take]; omega)
                            rw [← Ny110.out] at hr40
                            rw [← hy40] at hcut40
                            have HR113 := Aside0.mk hr40
                            have HC113 := Aside0.mk (show y110.length ≤ c0_2 from by omega)
                            clear hr40 hC40 hroom40 hi040 hsz40
                            have KY40 := Aside0.mk hy40
                            clear hy40
                            replace q40 := eq_true q40
                            go_wp2
                            go_loopg [71] kj16 (fun kq v71 w' => ∃ (x71_4 : Int), v71 = .int .i64 x71_4 ∧ Aside0 (spec_cuGood.l1 kq (wrap64 (x3_2 + (wrap64 (((rd_T56 l0_2 x28_2).f2) * ((rd_T56 l0_2 x28_2).f2))))) x28_2 l0_2 (l0_2.length : Int) x28_2 y110 (y110.length : Int) x71_4 a0_0 a0_1 l0_2 ((rd_T56 l0_2 x28_2).f0) ((rd_T56 l0_2 x28_2).f1) ((rd_T56 l0_2 x28_2).f2) = some r) ∧ Aside0 (kq ≤ kj16) ∧ Aside0 (w'.heap[gb101]? = some (.cells #[.int .i64 a0_0, .int .i64 a0_1, (.slice (some ad105) l0_2.length c0_2)] 37 (0, 0))) ∧ Aside0 (w'.heap[gb106]? = some (.cells #[.int .i64 ((rd_T56 l0_2 x28_2).f0), .int .i64 ((rd_T56 l0_2 x28_2).f1), .int .i64 ((rd_T56 l0_2 x28_2).f2)] 56 (0, 0))) ∧ Aside0 (Below w.heap.size w w'))
                            case atStart => exact ⟨(0), (by first | rfl | (simp; done) | (simp [*]; done)), H', ⟨Nat.le_refl _⟩, ⟨by (with_reducible repeat (first | refine blk_drewN ?_ _ | refine blk_drew ?_ | refine blk_alloc ?_ _)); exact BK101.out⟩, ⟨by (with_reducible repeat (first | refine blk_drewN ?_ _ | refine blk_drew ?_ | refine blk_alloc ?_ _)); exact BK106.out⟩, ⟨by repeat (first | (with_reducible first | exact HB.out | apply below_alloc | apply pw_below_drewN | apply below_drew1 | refine below_set ?_ GE101.out | refine below_set ?_ GE106.out) | exact HB.out)⟩⟩
                            case round =>
                              clear H'
                              try clear c1
                              try clear p1
                              try clear q1
                              try clear hx1
                              try clear c2
                              try clear p2
                              try clear c3
                              try clear c4
                              try clear q4
                              try clear c5
                              try clear p6
                              try clear c7
                              try clear p10
                              try clear q10
                              try clear hx10
                              try clear c12
                              try clear c14
                              try clear c14b0
                              try clear c15
                              try clear c15b0
                              try clear c16
                              try clear c16b0
                              try clear c19
                              try clear c22
                              try clear c24
                              try clear c26
                              try clear c29
                              try clear c30
                              try clear c32
                              try clear c34
                              try clear c35
                              try clear c35b0
                              try clear c35b1
                              try clear c36
                              try clear c36b0
                              try clear c36b1
                              try clear c37
                              try clear q40
                              try clear hcz10_0
                              try clear hcz10_1
                              try clear hcz10_2
                              try clear hcz11_0
                              try clear hcz11_1
                              try clear hcz11_2
                              try clear hcz13_0
                              try clear hcz13_1
                              try clear hcz13_2
                              try clear hcz20_0
                              try clear hcz20_1
                              try clear hcz20_2
                              try clear hcz27_0
                              try clear hcz27_1
                              try clear hcz27_2
                              try clear hcz28_0
                              try clear hcz28_1
                              try clear hcz28_2
                              try clear hcz30_0
                              try clear hcz30_1
                              try clear hcz30_2
                              try clear hcz31_0
                              try clear hcz31_1
                              try clear hcz31_2
                              try clear hcz33_0
                              try clear hcz33_1
                              try clear hcz33_2
                              try clear hcz38_0
                              try clear hcz38_1
                              try clear hcz38_2
                              try clear hcz39_0
                              try clear hcz39_1
                              try clear hcz39_2
                              try clear hcz9_0
                              try clear hcz9_1
                              try clear hcz9_2
                              try clear hfz10_0
                              try clear hfz10_1
                              try clear hfz10_2
                              try clear hfz11_0
                              try clear hfz11_1
                              try clear hfz11_2
                              try clear hfz13_0
                              try clear hfz13_1
                              try clear hfz13_2
                              try clear hfz20_0
                              try clear hfz20_1
                              try clear hfz20_2
                              try clear hfz27_0
                              try clear hfz27_1
                              try clear hfz27_2
                              try clear hfz28_0
                              try clear hfz28_1
                              try clear hfz28_2
                              try clear hfz30_0
                              try clear hfz30_1
                              try clear hfz30_2
                              try clear hfz31_0
                              try clear hfz31_1
                              try clear hfz31_2
                              try clear hfz33_0
                              try clear hfz33_1
                              try clear hfz33_2
                              try clear hfz38_0
                              try clear hfz38_1
                              try clear hfz38_2
                              try clear hfz39_0
                              try clear hfz39_1
                              try clear hfz39_2
                              try clear hfz9_0
                              try clear hfz9_1
                              try clear hfz9_2
                              try clear hx105_0
                              try clear hx105_1
                              try clear hx105_2
                              try clear p1
                              try clear p10
                              try clear p105
                              try clear p2
                              try clear p6
                              try clear q1
                              try clear q10
                              try clear q105
                              try clear q40
                              obtain ⟨x71_4, rfl, HA, HK4, BK101, BK106, HB⟩ := hrel
                              cases gk with
                              | zero => exact absurd HA.out (by simp [spec_cuGood.l1])
                              | succ k4 =>
                                have H := HA.out
                                clear HA
                                simp only [spec_cuGood.l1] at H
                                by_cases c41 : x71_4 < (y110.length : Int)
                                · rw [if_pos c41] at H
                                  have c41b0 : decide (x71_4 < (y110.length : Int)) = true := decide_eq_true c41
                                  clear c41
                                  by_cases c42 : 0 ≤ x71_4
                                  · rw [if_pos c42] at H
                                    have c42b0 : decide (0 ≤ x71_4) = true := decide_eq_true c42
                                    clear c42
                                    by_cases c43 : x71_4 < (y110.length : Int)
                                    · rw [if_pos c43] at H
                                      have c43b0 : decide (x71_4 < (y110.length : Int)) = true := decide_eq_true c43
                                      clear c43
                                      have HC44 := Aside0.mk H
                                      clear H
                                      have p114 : 0 ≤ (x71_4 : Int) := of_decide_eq_true (by first | (with_reducible assumption) | assumption)
                                      have q114 : x71_4 < (y110.length : Int) := of_decide_eq_true (by first | (with_reducible assumption) | assumption)
                                      obtain ⟨ad114, e114, hx114_0, hx114_1, hx114_2⟩ := at_T56 HR113.out x71_4 p114 q114
                                      obtain rfl : ad105 = ad114 := (by injection e114)
                                      replace hx114_0 := (HB.out.cell (World.block_lt_of_cell? w _ hx114_0)).trans hx114_0
                                      replace hx114_1 := (HB.out.cell (World.block_lt_of_cell? w _ hx114_1)).trans hx114_1
                                      replace hx114_2 := (HB.out.cell (World.block_lt_of_cell? w _ hx114_2)).trans hx114_2
                                      replace p114 := eq_true p114
                                      replace q114 := eq_true q114
                                      go_upto_region 13 with (first | ((with_reducible refine gate_dst (N := 7) rfl ?_); (try (refine gate_guard (by rfl) ?_; dsimp only)); refine box_event ?hg (N := 7) ?hd (cs := #[.int .i64 0, .int .i64 0, .int .i64 0]) (t := 56) ?hr ?_; (case hd => rfl); (case hg => rfl); (case hr => first | (go_simp; done) | (go_simp; rfl)); intro gb115 hg w45 hbox hb; have n0_ := Aside0.mk (blk_below (g := gb101) (o := .cells #[.int .i64 a0_0, .int .i64 a0_1, .slice (some ad105) l0_2.length c0_2] 37 (0, 0)) (by (with_reducible repeat (first | refine blk_drewN ?_ _ | refine blk_drew ?_ | refine blk_alloc ?_ _)); exact BK101.out) hb); have n1_ := Aside0.mk (blk_below (g := gb106) (o := .cells #[.int .i64 ((rd_T56 l0_2 x28_2).f0), .int .i64 ((rd_T56 l0_2 x28_2).f1), .int .i64 ((rd_T56 l0_2 x28_2).f2)] 56 (0, 0)) (by (with_reducible repeat (first | refine blk_drewN ?_ _ | refine blk_drew ?_ | refine blk_alloc ?_ _)); exact BK106.out) hb); have n2_ := Aside0.mk (below_step (by repeat (first | (with_reducible first | exact HB.out | apply below_alloc | apply pw_below_drewN | apply below_drew1 | refine below_set ?_ GE101.out | refine below_set ?_ GE106.out) | exact HB.out)) hb); have n3_ := Aside0.mk (hbox); have n4_ := Aside0.mk ((by rw [hg]; exact (below_size (by repeat (first | (with_reducible first | exact HB.out | apply below_alloc | apply pw_below_drewN | apply below_drew1 | refine below_set ?_ GE101.out | refine below_set ?_ GE106.out) | exact HB.out))) : w.heap.size ≤ gb115)); have n5_ := Aside0.mk ((by rw [hg]; exact (below_size (by repeat (first | (with_reducible first | exact HB.out | apply below_alloc | apply pw_below_drewN | apply below_drew1 | refine below_set ?_ GE101.out | refine below_set ?_ GE106.out) | exact HB.out))) : w.heap.size ≤ gb115)); have n6_ := Aside0.mk ((by rw [hg]; exact Nat.ne_of_lt (blk_lt (g := gb101) (o := .cells #[.int .i64 a0_0, .int .i64 a0_1, .slice (some ad105) l0_2.length c0_2] 37 (0, 0)) (by (with_reducible repeat (first | refine blk_drewN ?_ _ | refine blk_drew ?_ | refine blk_alloc ?_ _)); exact BK101.out)) : gb101 ≠ gb115)); have n7_ := Aside0.mk ((by rw [hg]; exact Nat.ne_of_gt (blk_lt (g := gb101) (o := .cells #[.int .i64 a0_0, .int .i64 a0_1, .slice (some ad105) l0_2.length c0_2] 37 (0, 0)) (by (with_reducible repeat (first | refine blk_drewN ?_ _ | refine blk_drew ?_ | refine blk_alloc ?_ _)); exact BK101.out)) : gb115 ≠ gb101)); have n8_ := Aside0.mk ((by rw [hg]; exact Nat.ne_of_lt (blk_lt (g := gb106) (o := .cells #[.int .i64 ((rd_T56 l0_2 x28_2).f0), .int .i64 ((rd_T56 l0_2 x28_2).f1), .int .i64 ((rd_T56 l0_2 x28_2).f2)] 56 (0, 0)) (by (with_reducible repeat (first | refine blk_drewN ?_ _ | refine blk_drew ?_ | refine blk_alloc ?_ _)); exact BK106.out)) : gb106 ≠ gb115)); have n9_ := Aside0.mk ((by rw [hg]; exact Nat.ne_of_gt (blk_lt (g := gb106) (o := .cells #[.int .i64 ((rd_T56 l0_2 x28_2).f0), .int .i64 ((rd_T56 l0_2 x28_2).f1), .int .i64 ((rd_T56 l0_2 x28_2).f2)] 56 (0, 0)) (by (with_reducible repeat (first | refine blk_drewN ?_ _ | refine blk_drew ?_ | refine blk_alloc ?_ _)); exact BK106.out)) : gb115 ≠ gb106)); clear BK101; clear BK106; clear HB; have BK101 := n0_; have BK106 := n1_; have HB := n2_; have BK115 := n3_; have GW115 := n4_; have GE115 := n5_; have NB101_115 := n6_; have NB115_101 := n7_; have NB106_115 := n8_; have NB115_106 := n9_; clear n0_ n1_ n2_ n3_ n4_ n5_ n6_ n7_ n8_ n9_; clear hb hbox hg; have hnb46 := NB115_101.out; have hnc46 := NB101_115.out; have hnb47 := NB115_106.out; have hnc47 := NB106_115.out; have hcz48_0 : w45.cell? ⟨gb115, 0, none⟩ = some (.int .i64 0) := (blk_cell BK115.out 0).trans rfl; have hcz48_1 : w45.cell? ⟨gb115, 1, none⟩ = some (.int .i64 0) := (blk_cell BK115.out 1).trans rfl; have hcz48_2 : w45.cell? ⟨gb115, 2, none⟩ = some (.int .i64 0) := (blk_cell BK115.out 2).trans rfl; have hfz48_0 := blk_frozen BK115.out 0; have hfz48_1 := blk_frozen BK115.out 1; have hfz48_2 := blk_frozen BK115.out 2))
                                      (try simp only [Act.put, List.setIfInBounds_toArray, List.set_cons_zero, List.set_cons_succ])
                                      go_cut [113] (fun v113 wc => ∃ (kq : Nat) (x113_43 : Bool), v113 = .bool x113_43 ∧ Aside0 (spec_cuGood.j4 kq (wrap64 (x3_2 + (wrap64 (((rd_T56 l0_2 x28_2).f2) * ((rd_T56 l0_2 x28_2).f2))))) x28_2 x71_4 l0_2 (l0_2.length : Int) x28_2 y110 (y110.length : Int) x71_4 x113_43 a0_0 a0_1 l0_2 ((rd_T56 l0_2 x28_2).f0) ((rd_T56 l0_2 x28_2).f1) ((rd_T56 l0_2 x28_2).f2) ((rd_T56 y110 x71_4).f0) ((rd_T56 y110 x71_4).f1) ((rd_T56 y110 x71_4).f2) = some r) ∧ Aside0 (kq ≤ k4) ∧ Aside0 (wc.heap[gb101]? = some (.cells #[.int .i64 a0_0, .int .i64 a0_1, (.slice (some ad105) l0_2.length c0_2)] 37 (0, 0))) ∧ Aside0 (wc.heap[gb106]? = some (.cells #[.int .i64 ((rd_T56 l0_2 x28_2).f0), .int .i64 ((rd_T56 l0_2 x28_2).f1), .int .i64 ((rd_T56 l0_2 x28_2).f2)] 56 (0, 0))) ∧ Aside0 (wc.heap[gb115]? = some (.cells #[.int .i64 ((rd_T56 y110 x71_4).f0), .int .i64 ((rd_T56 y110 x71_4).f1), .int .i64 ((rd_T56 y110 x71_4).f2)] 56 (0, 0))) ∧ Aside0 (Below w.heap.size w wc))
                                      case first =>
                                        have H := HC44.out
                                        clear HC44
                                        by_cases c49 : ((rd_T56 l0_2 x28_2).f0) < (wrap64 (((rd_T56 y110 x71_4).f0) + ((rd_T56 y110 x71_4).f2)))
                                        · rw [if_pos c49] at H
                                          have c49b0 : decide (((rd_T56 l0_2 x28_2).f0) < (wrap64 (((rd_T56 y110 x71_4).f0) + ((rd_T56 y110 x71_4).f2)))) = true := decide_eq_true c49
                                          clear c49
                                          (first | rw [c49b0] | (simp only [i64_w, i32_w]; rw [c49b0]) | skip)
                                          by_cases c50 : ((rd_T56 y110 x71_4).f0) < (wrap64 (((rd_T56 l0_2 x28_2).f0) + ((rd_T56 l0_2 x28_2).f2)))
                                          · rw [if_pos c50] at H
                                            have c50b0 : decide (((rd_T56 y110 x71_4).f0) < (wrap64 (((rd_T56 l0_2 x28_2).f0) + ((rd_T56 l0_2 x28_2).f2)))) = true := decide_eq_true c50
                                            clear c50
                                            by_cases c51 : ((rd_T56 l0_2 x28_2).f1) < (wrap64 (((rd_T56 y110 x71_4).f1) + ((rd_T56 y110 x71_4).f2)))
                                            · rw [if_pos c51] at H
                                              have c51b0 : decide (((rd_T56 l0_2 x28_2).f1) < (wrap64 (((rd_T56 y110 x71_4).f1) + ((rd_T56 y110 x71_4).f2)))) = true := decide_eq_true c51
                                              clear c51
                                              have H' := Aside0.mk H
                                              clear H
                                              have hnb52 := NB106_101.out
                                              have hnc52 := NB101_106.out
                                              have hnb53 := NB106_115.out
                                              have hnc53 := NB115_106.out
                                              have hcz54_0 : w45.cell? ⟨gb106, 0, none⟩ = some (.int .i64 ((rd_T56 l0_2 x28_2).f0)) := (blk_cell BK106.out 0).trans rfl
                                              have hcz54_1 : w45.cell? ⟨gb106, 1, none⟩ = some (.int .i64 ((rd_T56 l0_2 x28_2).f1)) := (blk_cell BK106.out 1).trans rfl
                                              have hcz54_2 : w45.cell? ⟨gb106, 2, none⟩ = some (.int .i64 ((rd_T56 l0_2 x28_2).f2)) := (blk_cell BK106.out 2).trans rfl
                                              have hfz54_0 := blk_frozen BK106.out 0
                                              have hfz54_1 := blk_frozen BK106.out 1
                                              have hfz54_2 := blk_frozen BK106.out 2
                                              have hnb55 := NB115_101.out
                                              have hnc55 := NB101_115.out
                                              have hcz56_0 : w45.cell? ⟨gb115, 0, none⟩ = some (.int .i64 0) := (blk_cell BK115.out 0).trans rfl
                                              have hcz56_1 : w45.cell? ⟨gb115, 1, none⟩ = some (.int .i64 0) := (blk_cell BK115.out 1).trans rfl
                                              have hcz56_2 : w45.cell? ⟨gb115, 2, none⟩ = some (.int .i64 0) := (blk_cell BK115.out 2).trans rfl
                                              have hfz56_0 := blk_frozen BK115.out 0
                                              have hfz56_1 := blk_frozen BK115.out 1
                                              have hfz56_2 := blk_frozen BK115.out 2
                                              go_wp2
                                              go_meet
                                              case rel => exact ⟨_, (decide (((rd_T56 y110 x71_4).f1) < (wrap64 (((rd_T56 l0_2 x28_2).f1) + ((rd_T56 l0_2 x28_2).f2))))), (by first | rfl | (simp; done) | (simp [*]; done)), H', ⟨by have := HJ1.out; have := HK2.out; have := HJ16.out; have := HK4.out; first | omega | exact Nat.le_refl _⟩, ⟨by (with_reducible repeat (first | refine blk_drewN ?_ _ | refine blk_drew ?_ | refine blk_alloc ?_ _)); refine blk_far ?_ NB101_115.out _; (with_reducible repeat (first | refine blk_drewN ?_ _ | refine blk_drew ?_ | refine blk_alloc ?_ _)); refine blk_far ?_ NB101_115.out _; (with_reducible repeat (first | refine blk_drewN ?_ _ | refine blk_drew ?_ | refine blk_alloc ?_ _)); refine blk_far ?_ NB101_115.out _; (with_reducible repeat (first | refine blk_drewN ?_ _ | refine blk_drew ?_ | refine blk_alloc ?_ _)); exact BK101.out⟩, ⟨by (with_reducible repeat (first | refine blk_drewN ?_ _ | refine blk_drew ?_ | refine blk_alloc ?_ _)); refine blk_far ?_ NB106_115.out _; (with_reducible repeat (first | refine blk_drewN ?_ _ | refine blk_drew ?_ | refine blk_alloc ?_ _)); refine blk_far ?_ NB106_115.out _; (with_reducible repeat (first | refine blk_drewN ?_ _ | refine blk_drew ?_ | refine blk_alloc ?_ _)); refine blk_far ?_ NB106_115.out _; (with_reducible repeat (first | refine blk_drewN ?_ _ | refine blk_drew ?_ | refine blk_alloc ?_ _)); exact BK106.out⟩, ⟨by (with_reducible repeat (first | refine blk_drewN ?_ _ | refine blk_drew ?_ | refine blk_alloc ?_ _)); refine blk_put (cs := #[.int .i64 ((rd_T56 y110 x71_4).f0), .int .i64 ((rd_T56 y110 x71_4).f1), .int .i64 0]) ?_ 2 _ rfl; (with_reducible repeat (first | refine blk_drewN ?_ _ | refine blk_drew ?_ | refine blk_alloc ?_ _)); refine blk_put (cs := #[.int .i64 ((rd_T56 y110 x71_4).f0), .int .i64 0, .int .i64 0]) ?_ 1 _ rfl; (with_reducible repeat (first | refine blk_drewN ?_ _ | refine blk_drew ?_ | refine blk_alloc ?_ _)); refine blk_put (cs := #[.int .i64 0, .int .i64 0, .int .i64 0]) ?_ 0 _ rfl; (with_reducible repeat (first | refine blk_drewN ?_ _ | refine blk_drew ?_ | refine blk_alloc ?_ _)); exact BK115.out⟩, ⟨by repeat (first | (with_reducible first | exact HB.out | apply below_alloc | apply pw_below_drewN | apply below_drew1 | refine below_set ?_ GE101.out | refine below_set ?_ GE106.out | refine below_set ?_ GE115.out) | exact HB.out)⟩⟩
                                            · rw [if_neg c51] at H
                                              have c51b0 : decide (((rd_T56 l0_2 x28_2).f1) < (wrap64 (((rd_T56 y110 x71_4).f1) + ((rd_T56 y110 x71_4).f2)))) = false := decide_eq_false c51
                                              clear c51
                                              have H' := Aside0.mk H
                                              clear H
                                              have hnb57 := NB106_101.out
                                              have hnc57 := NB101_106.out
                                              have hnb58 := NB106_115.out
                                              have hnc58 := NB115_106.out
                                              have hcz59_0 : w45.cell? ⟨gb106, 0, none⟩ = some (.int .i64 ((rd_T56 l0_2 x28_2).f0)) := (blk_cell BK106.out 0).trans rfl
                                              have hcz59_1 : w45.cell? ⟨gb106, 1, none⟩ = some (.int .i64 ((rd_T56 l0_2 x28_2).f1)) := (blk_cell BK106.out 1).trans rfl
                                              have hcz59_2 : w45.cell? ⟨gb106, 2, none⟩ = some (.int .i64 ((rd_T56 l0_2 x28_2).f2)) := (blk_cell BK106.out 2).trans rfl
                                              have hfz59_0 := blk_frozen BK106.out 0
                                              have hfz59_1 := blk_frozen BK106.out 1
                                              have hfz59_2 := blk_frozen BK106.out 2
                                              have hnb60 := NB115_101.out
                                              have hnc60 := NB101_115.out
                                              have hcz61_0 : w45.cell? ⟨gb115, 0, none⟩ = some (.int .i64 0) := (blk_cell BK115.out 0).trans rfl
                                              have hcz61_1 : w45.cell? ⟨gb115, 1, none⟩ = some (.int .i64 0) := (blk_cell BK115.out 1).trans rfl
                                              have hcz61_2 : w45.cell? ⟨gb115, 2, none⟩ = some (.int .i64 0) := (blk_cell BK115.out 2).trans rfl
                                              have hfz61_0 := blk_frozen BK115.out 0
                                              have hfz61_1 := blk_frozen BK115.out 1
                                              have hfz61_2 := blk_frozen BK115.out 2
                                              go_wp2
                                              go_meet
                                              case rel => exact ⟨_, (false), (by first | rfl | (simp; done) | (simp [*]; done)), H', ⟨by have := HJ1.out; have := HK2.out; have := HJ16.out; have := HK4.out; first | omega | exact Nat.le_refl _⟩, ⟨by (with_reducible repeat (first | refine blk_drewN ?_ _ | refine blk_drew ?_ | refine blk_alloc ?_ _)); refine blk_far ?_ NB101_115.out _; (with_reducible repeat (first | refine blk_drewN ?_ _ | refine blk_drew ?_ | refine blk_alloc ?_ _)); refine blk_far ?_ NB101_115.out _; (with_reducible repeat (first | refine blk_drewN ?_ _ | refine blk_drew ?_ | refine blk_alloc ?_ _)); refine blk_far ?_ NB101_115.out _; (with_reducible repeat (first | refine blk_drewN ?_ _ | refine blk_drew ?_ | refine blk_alloc ?_ _)); exact BK101.out⟩, ⟨by (with_reducible repeat (first | refine blk_drewN ?_ _ | refine blk_drew ?_ | refine blk_alloc ?_ _)); refine blk_far ?_ NB106_115.out _; (with_reducible repeat (first | refine blk_drewN ?_ _ | refine blk_drew ?_ | refine blk_alloc ?_ _)); refine blk_far ?_ NB106_115.out _; (with_reducible repeat (first | refine blk_drewN ?_ _ | refine blk_drew ?_ | refine blk_alloc ?_ _)); refine blk_far ?_ NB106_115.out _; (with_reducible repeat (first | refine blk_drewN ?_ _ | refine blk_drew ?_ | refine blk_alloc ?_ _)); exact BK106.out⟩, ⟨by (with_reducible repeat (first | refine blk_drewN ?_ _ | refine blk_drew ?_ | refine blk_alloc ?_ _)); refine blk_put (cs := #[.int .i64 ((rd_T56 y110 x71_4).f0), .int .i64 ((rd_T56 y110 x71_4).f1), .int .i64 0]) ?_ 2 _ rfl; (with_reducible repeat (first | refine blk_drewN ?_ _ | refine blk_drew ?_ | refine blk_alloc ?_ _)); refine blk_put (cs := #[.int .i64 ((rd_T56 y110 x71_4).f0), .int .i64 0, .int .i64 0]) ?_ 1 _ rfl; (with_reducible repeat (first | refine blk_drewN ?_ _ | refine blk_drew ?_ | refine blk_alloc ?_ _)); refine blk_put (cs := #[.int .i64 0, .int .i64 0, .int .i64 0]) ?_ 0 _ rfl; (with_reducible repeat (first | refine blk_drewN ?_ _ | refine blk_drew ?_ | refine blk_alloc ?_ _)); exact BK115.out⟩, ⟨by repeat (first | (with_reducible first | exact HB.out | apply below_alloc | apply pw_below_drewN | apply below_drew1 | refine below_set ?_ GE101.out | refine below_set ?_ GE106.out | refine below_set ?_ GE115.out) | exact HB.out)⟩⟩
                                          · rw [if_neg c50] at H
                                            have c50b0 : decide (((rd_T56 y110 x71_4).f0) < (wrap64 (((rd_T56 l0_2 x28_2).f0) + ((rd_T56 l0_2 x28_2).f2)))) = false := decide_eq_false c50
                                            clear c50
                                            have H' := Aside0.mk H
                                            clear H
                                            have hnb62 := NB106_101.out
                                            have hnc62 := NB101_106.out
                                            have hnb63 := NB106_115.out
                                            have hnc63 := NB115_106.out
                                            have hcz64_0 : w45.cell? ⟨gb106, 0, none⟩ = some (.int .i64 ((rd_T56 l0_2 x28_2).f0)) := (blk_cell BK106.out 0).trans rfl
                                            have hcz64_1 : w45.cell? ⟨gb106, 1, none⟩ = some (.int .i64 ((rd_T56 l0_2 x28_2).f1)) := (blk_cell BK106.out 1).trans rfl
                                            have hcz64_2 : w45.cell? ⟨gb106, 2, none⟩ = some (.int .i64 ((rd_T56 l0_2 x28_2).f2)) := (blk_cell BK106.out 2).trans rfl
                                            have hfz64_0 := blk_frozen BK106.out 0
                                            have hfz64_1 := blk_frozen BK106.out 1
                                            have hfz64_2 := blk_frozen BK106.out 2
                                            have hnb65 := NB115_101.out
                                            have hnc65 := NB101_115.out
                                            have hcz66_0 : w45.cell? ⟨gb115, 0, none⟩ = some (.int .i64 0) := (blk_cell BK115.out 0).trans rfl
                                            have hcz66_1 : w45.cell? ⟨gb115, 1, none⟩ = some (.int .i64 0) := (blk_cell BK115.out 1).trans rfl
                                            have hcz66_2 : w45.cell? ⟨gb115, 2, none⟩ = some (.int .i64 0) := (blk_cell BK115.out 2).trans rfl
                                            have hfz66_0 := blk_frozen BK115.out 0
                                            have hfz66_1 := blk_frozen BK115.out 1
                                            have hfz66_2 := blk_frozen BK115.out 2
                                            go_wp2
                                            go_meet
                                            case rel => exact ⟨_, (false), (by first | rfl | (simp; done) | (simp [*]; done)), H', ⟨by have := HJ1.out; have := HK2.out; have := HJ16.out; have := HK4.out; first | omega | exact Nat.le_refl _⟩, ⟨by (with_reducible repeat (first | refine blk_drewN ?_ _ | refine blk_drew ?_ | refine blk_alloc ?_ _)); refine blk_far ?_ NB101_115.out _; (with_reducible repeat (first | refine blk_drewN ?_ _ | refine blk_drew ?_ | refine blk_alloc ?_ _)); refine blk_far ?_ NB101_115.out _; (with_reducible repeat (first | refine blk_drewN ?_ _ | refine blk_drew ?_ | refine blk_alloc ?_ _)); refine blk_far ?_ NB101_115.out _; (with_reducible repeat (first | refine blk_drewN ?_ _ | refine blk_drew ?_ | refine blk_alloc ?_ _)); exact BK101.out⟩, ⟨by (with_reducible repeat (first | refine blk_drewN ?_ _ | refine blk_drew ?_ | refine blk_alloc ?_ _)); refine blk_far ?_ NB106_115.out _; (with_reducible repeat (first | refine blk_drewN ?_ _ | refine blk_drew ?_ | refine blk_alloc ?_ _)); refine blk_far ?_ NB106_115.out _; (with_reducible repeat (first | refine blk_drewN ?_ _ | refine blk_drew ?_ | refine blk_alloc ?_ _)); refine blk_far ?_ NB106_115.out _; (with_reducible repeat (first | refine blk_drewN ?_ _ | refine blk_drew ?_ | refine blk_alloc ?_ _)); exact BK106.out⟩, ⟨by (with_reducible repeat (first | refine blk_drewN ?_ _ | refine blk_drew ?_ | refine blk_alloc ?_ _)); refine blk_put (cs := #[.int .i64 ((rd_T56 y110 x71_4).f0), .int .i64 ((rd_T56 y110 x71_4).f1), .int .i64 0]) ?_ 2 _ rfl; (with_reducible repeat (first | refine blk_drewN ?_ _ | refine blk_drew ?_ | refine blk_alloc ?_ _)); refine blk_put (cs := #[.int .i64 ((rd_T56 y110 x71_4).f0), .int .i64 0, .int .i64 0]) ?_ 1 _ rfl; (with_reducible repeat (first | refine blk_drewN ?_ _ | refine blk_drew ?_ | refine blk_alloc ?_ _)); refine blk_put (cs := #[.int .i64 0, .int .i64 0, .int .i64 0]) ?_ 0 _ rfl; (with_reducible repeat (first | refine blk_drewN ?_ _ | refine blk_drew ?_ | refine blk_alloc ?_ _)); exact BK115.out⟩, ⟨by repeat (first | (with_reducible first | exact HB.out | apply below_alloc | apply pw_below_drewN | apply below_drew1 | refine below_set ?_ GE101.out | refine below_set ?_ GE106.out | refine below_set ?_ GE115.out) | exact HB.out)⟩⟩
                                        · rw [if_neg c49] at H
                                          have c49b0 : decide (((rd_T56 l0_2 x28_2).f0) < (wrap64 (((rd_T56 y110 x71_4).f0) + ((rd_T56 y110 x71_4).f2)))) = false := decide_eq_false c49
                                          clear c49
                                          (first | rw [c49b0] | (simp only [i64_w, i32_w]; rw [c49b0]) | skip)
                                          have H' := Aside0.mk H
                                          clear H
                                          have hnb67 := NB106_101.out
                                          have hnc67 := NB101_106.out
                                          have hnb68 := NB106_115.out
                                          have hnc68 := NB115_106.out
                                          have hcz69_0 : w45.cell? ⟨gb106, 0, none⟩ = some (.int .i64 ((rd_T56 l0_2 x28_2).f0)) := (blk_cell BK106.out 0).trans rfl
                                          have hcz69_1 : w45.cell? ⟨gb106, 1, none⟩ = some (.int .i64 ((rd_T56 l0_2 x28_2).f1)) := (blk_cell BK106.out 1).trans rfl
                                          have hcz69_2 : w45.cell? ⟨gb106, 2, none⟩ = some (.int .i64 ((rd_T56 l0_2 x28_2).f2)) := (blk_cell BK106.out 2).trans rfl
                                          have hfz69_0 := blk_frozen BK106.out 0
                                          have hfz69_1 := blk_frozen BK106.out 1
                                          have hfz69_2 := blk_frozen BK106.out 2
                                          have hnb70 := NB115_101.out
                                          have hnc70 := NB101_115.out
                                          have hcz71_0 : w45.cell? ⟨gb115, 0, none⟩ = some (.int .i64 0) := (blk_cell BK115.out 0).trans rfl
                                          have hcz71_1 : w45.cell? ⟨gb115, 1, none⟩ = some (.int .i64 0) := (blk_cell BK115.out 1).trans rfl
                                          have hcz71_2 : w45.cell? ⟨gb115, 2, none⟩ = some (.int .i64 0) := (blk_cell BK115.out 2).trans rfl
                                          have hfz71_0 := blk_frozen BK115.out 0
                                          have hfz71_1 := blk_frozen BK115.out 1
                                          have hfz71_2 := blk_frozen BK115.out 2
                                          go_wp2
                                          go_meet
                                          case rel => exact ⟨_, (false), (by first | rfl | (simp; done) | (simp [*]; done)), H', ⟨by have := HJ1.out; have := HK2.out; have := HJ16.out; have := HK4.out; first | omega | exact Nat.le_refl _⟩, ⟨by (with_reducible repeat (first | refine blk_drewN ?_ _ | refine blk_drew ?_ | refine blk_alloc ?_ _)); refine blk_far ?_ NB101_115.out _; (with_reducible repeat (first | refine blk_drewN ?_ _ | refine blk_drew ?_ | refine blk_alloc ?_ _)); refine blk_far ?_ NB101_115.out _; (with_reducible repeat (first | refine blk_drewN ?_ _ | refine blk_drew ?_ | refine blk_alloc ?_ _)); refine blk_far ?_ NB101_115.out _; (with_reducible repeat (first | refine blk_drewN ?_ _ | refine blk_drew ?_ | refine blk_alloc ?_ _)); exact BK101.out⟩, ⟨by (with_reducible repeat (first | refine blk_drewN ?_ _ | refine blk_drew ?_ | refine blk_alloc ?_ _)); refine blk_far ?_ NB106_115.out _; (with_reducible repeat (first | refine blk_drewN ?_ _ | refine blk_drew ?_ | refine blk_alloc ?_ _)); refine blk_far ?_ NB106_115.out _; (with_reducible repeat (first | refine blk_drewN ?_ _ | refine blk_drew ?_ | refine blk_alloc ?_ _)); refine blk_far ?_ NB106_115.out _; (with_reducible repeat (first | refine blk_drewN ?_ _ | refine blk_drew ?_ | refine blk_alloc ?_ _)); exact BK106.out⟩, ⟨by (with_reducible repeat (first | refine blk_drewN ?_ _ | refine blk_drew ?_ | refine blk_alloc ?_ _)); refine blk_put (cs := #[.int .i64 ((rd_T56 y110 x71_4).f0), .int .i64 ((rd_T56 y110 x71_4).f1), .int .i64 0]) ?_ 2 _ rfl; (with_reducible repeat (first | refine blk_drewN ?_ _ | refine blk_drew ?_ | refine blk_alloc ?_ _)); refine blk_put (cs := #[.int .i64 ((rd_T56 y110 x71_4).f0), .int .i64 0, .int .i64 0]) ?_ 1 _ rfl; (with_reducible repeat (first | refine blk_drewN ?_ _ | refine blk_drew ?_ | refine blk_alloc ?_ _)); refine blk_put (cs := #[.int .i64 0, .int .i64 0, .int .i64 0]) ?_ 0 _ rfl; (with_reducible repeat (first | refine blk_drewN ?_ _ | refine blk_drew ?_ | refine blk_alloc ?_ _)); exact BK115.out⟩, ⟨by repeat (first | (with_reducible first | exact HB.out | apply below_alloc | apply pw_below_drewN | apply below_drew1 | refine below_set ?_ GE101.out | refine below_set ?_ GE106.out | refine below_set ?_ GE115.out) | exact HB.out)⟩⟩
                                      case rest =>
                                        clear HC44
                                        try clear c1
                                        try clear p1
                                        try clear q1
                                        try clear hx1
                                        try clear c2
                                        try clear p2
                                        try clear c3
                                        try clear c4
                                        try clear q4
                                        try clear c5
                                        try clear c6
                                        try clear p6
                                        try clear c7
                                        try clear p10
                                        try clear q10
                                        try clear hx10
                                        try clear p11
                                        try clear q11
                                        try clear hx11
                                        try clear c12
                                        try clear c14
                                        try clear c14b0
                                        try clear c15
                                        try clear c15b0
                                        try clear c16
                                        try clear c16b0
                                        try clear c19
                                        try clear c22
                                        try clear c24
                                        try clear c26
                                        try clear c29
                                        try clear c30
                                        try clear c32
                                        try clear c34
                                        try clear c35
                                        try clear c35b0
                                        try clear c35b1
                                        try clear c36
                                        try clear c36b0
                                        try clear c36b1
                                        try clear c37
                                        try clear q40
                                        try clear c41
                                        try clear c41b0
                                        try clear c42
                                        try clear c42b0
                                        try clear c43
                                        try clear c43b0
                                        try clear c46
                                        try clear c47
                                        try clear c49
                                        try clear c49b0
                                        try clear c50
                                        try clear c50b0
                                        try clear c51
                                        try clear c51b0
                                        try clear c52
                                        try clear c53
                                        try clear c55
                                        try clear c57
                                        try clear c58
                                        try clear c60
                                        try clear c62
                                        try clear c63
                                        try clear p64
                                        try clear c65
                                        try clear c67
                                        try clear c68
                                        try clear c70
                                        try clear hcz10_0
                                        try clear hcz10_1
                                        try clear hcz10_2
                                        try clear hcz11_0
                                        try clear hcz11_1
                                        try clear hcz11_2
                                        try clear hcz13_0
                                        try clear hcz13_1
                                        try clear hcz13_2
                                        try clear hcz20_0
                                        try clear hcz20_1
                                        try clear hcz20_2
                                        try clear hcz27_0
                                        try clear hcz27_1
                                        try clear hcz27_2
                                        try clear hcz28_0
                                        try clear hcz28_1
                                        try clear hcz28_2
                                        try clear hcz30_0
                                        try clear hcz30_1
                                        try clear hcz30_2
                                        try clear hcz31_0
                                        try clear hcz31_1
                                        try clear hcz31_2
                                        try clear hcz33_0
                                        try clear hcz33_1
                                        try clear hcz33_2
                                        try clear hcz38_0
                                        try clear hcz38_1
                                        try clear hcz38_2
                                        try clear hcz39_0
                                        try clear hcz39_1
                                        try clear hcz39_2
                                        try clear hcz48_0
                                        try clear hcz48_1
                                        try clear hcz48_2
                                        try clear hcz54_0
                                        try clear hcz54_1
                                        try clear hcz54_2
                                        try clear hcz56_0
                                        try clear hcz56_1
                                        try clear hcz56_2
                                        try clear hcz59_0
                                        try clear hcz59_1
                                        try clear hcz59_2
                                        try clear hcz61_0
                                        try clear hcz61_1
                                        try clear hcz61_2
                                        try clear hcz64_0
                                        try clear hcz64_1
                                        try clear hcz64_2
                                        try clear hcz66_0
                                        try clear hcz66_1
                                        try clear hcz66_2
                                        try clear hcz69_0
                                        try clear hcz69_1
                                        try clear hcz69_2
                                        try clear hcz71_0
                                        try clear hcz71_1
                                        try clear hcz71_2
                                        try clear hcz9_0
                                        try clear hcz9_1
                                        try clear hcz9_2
                                        try clear hfz10_0
                                        try clear hfz10_1
                                        try clear hfz10_2
                                        try clear hfz11_0
                                        try clear hfz11_1
                                        try clear hfz11_2
                                        try clear hfz13_0
                                        try clear hfz13_1
                                        try clear hfz13_2
                                        try clear hfz20_0
                                        try clear hfz20_1
                                        try clear hfz20_2
                                        try clear hfz27_0
                                        try clear hfz27_1
                                        try clear hfz27_2
                                        try clear hfz28_0
                                        try clear hfz28_1
                                        try clear hfz28_2
                                        try clear hfz30_0
                                        try clear hfz30_1
                                        try clear hfz30_2
                                        try clear hfz31_0
                                        try clear hfz31_1
                                        try clear hfz31_2
                                        try clear hfz33_0
                                        try clear hfz33_1
                                        try clear hfz33_2
                                        try clear hfz38_0
                                        try clear hfz38_1
                                        try clear hfz38_2
                                        try clear hfz39_0
                                        try clear hfz39_1
                                        try clear hfz39_2
                                        try clear hfz48_0
                                        try clear hfz48_1
                                        try clear hfz48_2
                                        try clear hfz54_0
                                        try clear hfz54_1
                                        try clear hfz54_2
                                        try clear hfz56_0
                                        try clear hfz56_1
                                        try clear hfz56_2
                                        try clear hfz59_0
                                        try clear hfz59_1
                                        try clear hfz59_2
                                        try clear hfz61_0
                                        try clear hfz61_1
                                        try clear hfz61_2
                                        try clear hfz64_0
                                        try clear hfz64_1
                                        try clear hfz64_2
                                        try clear hfz66_0
                                        try clear hfz66_1
                                        try clear hfz66_2
                                        try clear hfz69_0
                                        try clear hfz69_1
                                        try clear hfz69_2
                                        try clear hfz71_0
                                        try clear hfz71_1
                                        try clear hfz71_2
                                        try clear hfz9_0
                                        try clear hfz9_1
                                        try clear hfz9_2
                                        try clear hx105_0
                                        try clear hx105_1
                                        try clear hx105_2
                                        try clear hx114_0
                                        try clear hx114_1
                                        try clear hx114_2
                                        try clear p1
                                        try clear p10
                                        try clear p105
                                        try clear p114
                                        try clear p2
                                        try clear p6
                                        try clear q1
                                        try clear q10
                                        try clear q105
                                        try clear q114
                                        try clear q4
                                        try clear q40
                                        obtain ⟨kq, x113_43, rfl, HA, HJ43, BK101, BK106, BK115, HB⟩ := hcut
                                        cases kq with
                                        | zero => exact absurd HA.out (by simp [spec_cuGood.j4])
                                        | succ kj43 =>
                                          have H := HA.out
                                          clear HA
                                          simp only [spec_cuGood.j4] at H
                                          by_cases c72 : x113_43 = true
                                          · subst c72
                                            have H1 : (some false) = some r := by rw [if_pos rfl] at H; exact H
                                            clear H
                                            have H := H1
                                            clear H1
                                            obtain rfl := Option.some.inj H
                                            go_wp2
                                            go_ret
                                            exact ⟨by first | rfl | (simp [errW_none, errW_some] <;> rfl) | (simp [*, errW_none, errW_some] <;> rfl), by repeat (first | (with_reducible first | exact HB.out | apply below_alloc | apply pw_below_drewN | apply below_drew1 | refine below_set ?_ GE101.out | refine below_set ?_ GE106.out | refine below_set ?_ GE115.out) | exact HB.out)⟩
                                          · replace c72 := Bool.eq_false_iff.mpr c72
                                            subst c72
                                            have H1 : (if x71_4 = (wrap64 (x28_2 - 1)) then ((spec_cuLess.f ((rd_T56 y110 x71_4).f0) ((rd_T56 y110 x71_4).f1) ((rd_T56 y110 x71_4).f2) ((rd_T56 l0_2 x28_2).f0) ((rd_T56 l0_2 x28_2).f1) ((rd_T56 l0_2 x28_2).f2)).bind fun t116 => (if t116 = true then (spec_cuGood.l1 kj43 (wrap64 (x3_2 + (wrap64 (((rd_T56 l0_2 x28_2).f2) * ((rd_T56 l0_2 x28_2).f2))))) x28_2 l0_2 (l0_2.length : Int) x28_2 y110 (y110.length : Int) (wrap64 (x71_4 + 1)) a0_0 a0_1 l0_2 ((rd_T56 l0_2 x28_2).f0) ((rd_T56 l0_2 x28_2).f1) ((rd_T56 l0_2 x28_2).f2)) else (some false))) else (spec_cuGood.l1 kj43 (wrap64 (x3_2 + (wrap64 (((rd_T56 l0_2 x28_2).f2) * ((rd_T56 l0_2 x28_2).f2))))) x28_2 l0_2 (l0_2.length : Int) x28_2 y110 (y110.length : Int) (wrap64 (x71_4 + 1)) a0_0 a0_1 l0_2 ((rd_T56 l0_2 x28_2).f0) ((rd_T56 l0_2 x28_2).f1) ((rd_T56 l0_2 x28_2).f2))) = some r := by rw [if_neg (show ¬ (false = true) by decide)] at H; exact H
                                            clear H
                                            have H := H1
                                            clear H1
                                            by_cases c73 : x71_4 = (wrap64 (x28_2 - 1))
                                            · rw [if_pos c73] at H
                                              have c73b0 : (x71_4 == (wrap64 (x28_2 - 1))) = true := beq_iff_eq.mpr c73
                                              have c73b1 : (x71_4 != (wrap64 (x28_2 - 1))) = false := bne_eq_false_iff_eq.mpr c73
                                              clear c73
                                              replace H := Option.bind_eq_some_iff.mp H
                                              obtain ⟨t116, A740, H⟩ := H
                                              replace H : (if t116 = true then (spec_cuGood.l1 kj43 (wrap64 (x3_2 + (wrap64 (((rd_T56 l0_2 x28_2).f2) * ((rd_T56 l0_2 x28_2).f2))))) x28_2 l0_2 (l0_2.length : Int) x28_2 y110 (y110.length : Int) (wrap64 (x71_4 + 1)) a0_0 a0_1 l0_2 ((rd_T56 l0_2 x28_2).f0) ((rd_T56 l0_2 x28_2).f1) ((rd_T56 l0_2 x28_2).f2)) else (some false)) = some r := H
                                              have A74 := Aside0.mk A740
                                              clear A740
                                              by_cases c75 : t116 = true
                                              · subst c75
                                                have H1 : (spec_cuGood.l1 kj43 (wrap64 (x3_2 + (wrap64 (((rd_T56 l0_2 x28_2).f2) * ((rd_T56 l0_2 x28_2).f2))))) x28_2 l0_2 (l0_2.length : Int) x28_2 y110 (y110.length : Int) (wrap64 (x71_4 + 1)) a0_0 a0_1 l0_2 ((rd_T56 l0_2 x28_2).f0) ((rd_T56 l0_2 x28_2).f1) ((rd_T56 l0_2 x28_2).f2)) = some r := by rw [if_pos rfl] at H; exact H
                                                clear H
                                                have H := H1
                                                clear H1
                                                have H' := Aside0.mk H
                                                clear H
                                                have hnb76 := NB115_101.out
                                                have hnc76 := NB101_115.out
                                                have hnb77 := NB115_106.out
                                                have hnc77 := NB106_115.out
                                                have hcz78_0 : wc.cell? ⟨gb115, 0, none⟩ = some (.int .i64 ((rd_T56 y110 x71_4).f0)) := (blk_cell BK115.out 0).trans rfl
                                                have hcz78_1 : wc.cell? ⟨gb115, 1, none⟩ = some (.int .i64 ((rd_T56 y110 x71_4).f1)) := (blk_cell BK115.out 1).trans rfl
                                                have hcz78_2 : wc.cell? ⟨gb115, 2, none⟩ = some (.int .i64 ((rd_T56 y110 x71_4).f2)) := (blk_cell BK115.out 2).trans rfl
                                                have hfz78_0 := blk_frozen BK115.out 0
                                                have hfz78_1 := blk_frozen BK115.out 1
                                                have hfz78_2 := blk_frozen BK115.out 2
                                                have hnb79 := NB106_101.out
                                                have hnc79 := NB101_106.out
                                                have hcz80_0 : wc.cell? ⟨gb106, 0, none⟩ = some (.int .i64 ((rd_T56 l0_2 x28_2).f0)) := (blk_cell BK106.out 0).trans rfl
                                                have hcz80_1 : wc.cell? ⟨gb106, 1, none⟩ = some (.int .i64 ((rd_T56 l0_2 x28_2).f1)) := (blk_cell BK106.out 1).trans rfl
                                                have hcz80_2 : wc.cell? ⟨gb106, 2, none⟩ = some (.int .i64 ((rd_T56 l0_2 x28_2).f2)) := (blk_cell BK106.out 2).trans rfl
                                                have hfz80_0 := blk_frozen BK106.out 0
                                                have hfz80_1 := blk_frozen BK106.out 1
                                                have hfz80_2 := blk_frozen BK106.out 2
                                                go_wp2_with (first | (go_at_call 74; (with_reducible refine (spec_cuLess.calls ((rd_T56 y110 x71_4).f0) ((rd_T56 y110 x71_4).f1) ((rd_T56 y110 x71_4).f2) ((rd_T56 l0_2 x28_2).f0) ((rd_T56 l0_2 x28_2).f1) ((rd_T56 l0_2 x28_2).f2) true _ A74.out).mono ?_); rintro e w81 ⟨rfl, hb⟩; have n0_ := Aside0.mk (blk_below (g := gb101) (o := .cells #[.int .i64 a0_0, .int .i64 a0_1, .slice (some ad105) l0_2.length c0_2] 37 (0, 0)) (by (with_reducible repeat (first | refine blk_drewN ?_ _ | refine blk_drew ?_ | refine blk_alloc ?_ _)); exact BK101.out) hb); have n1_ := Aside0.mk (blk_below (g := gb106) (o := .cells #[.int .i64 ((rd_T56 l0_2 x28_2).f0), .int .i64 ((rd_T56 l0_2 x28_2).f1), .int .i64 ((rd_T56 l0_2 x28_2).f2)] 56 (0, 0)) (by (with_reducible repeat (first | refine blk_drewN ?_ _ | refine blk_drew ?_ | refine blk_alloc ?_ _)); exact BK106.out) hb); have n2_ := Aside0.mk (blk_below (g := gb115) (o := .cells #[.int .i64 ((rd_T56 y110 x71_4).f0), .int .i64 ((rd_T56 y110 x71_4).f1), .int .i64 ((rd_T56 y110 x71_4).f2)] 56 (0, 0)) (by (with_reducible repeat (first | refine blk_drewN ?_ _ | refine blk_drew ?_ | refine blk_alloc ?_ _)); exact BK115.out) hb); have n3_ := Aside0.mk (below_step (by repeat (first | (with_reducible first | exact HB.out | apply below_alloc | apply pw_below_drewN | apply below_drew1 | refine below_set ?_ GE101.out | refine below_set ?_ GE106.out | refine below_set ?_ GE115.out) | exact HB.out)) hb); clear BK101; clear BK106; clear BK115; clear HB; have BK101 := n0_; have BK106 := n1_; have BK115 := n2_; have HB := n3_; clear n0_ n1_ n2_ n3_; (try clear hb); (try clear hb2); (try clear hk); (try clear hi)))
                                                go_roundg kj43
                                                case measure => have := HJ1.out; have := HK2.out; have := HJ16.out; have := HK4.out; have := HJ43.out; omega
                                                case rel => exact ⟨(wrap64 (x71_4 + 1)), (by first | rfl | (simp; done) | (simp [*]; done)), H', ⟨by have := HJ1.out; have := HK2.out; have := HJ16.out; have := HK4.out; have := HJ43.out; omega⟩, ⟨by (with_reducible repeat (first | refine blk_drewN ?_ _ | refine blk_drew ?_ | refine blk_alloc ?_ _)); exact BK101.out⟩, ⟨by (with_reducible repeat (first | refine blk_drewN ?_ _ | refine blk_drew ?_ | refine blk_alloc ?_ _)); exact BK106.out⟩, ⟨by repeat (first | (with_reducible first | exact HB.out | apply below_alloc | apply pw_below_drewN | apply below_drew1 | refine below_set ?_ GE101.out | refine below_set ?_ GE106.out | refine below_set ?_ GE115.out) | exact HB.out)⟩⟩
                                              · replace c75 := Bool.eq_false_iff.mpr c75
                                                subst c75
                                                have H1 : (some false) = some r := by rw [if_neg (show ¬ (false = true) by decide)] at H; exact H
                                                clear H
                                                have H := H1
                                                clear H1
                                                obtain rfl := Option.some.inj H
                                                have hnb82 := NB115_101.out
                                                have hnc82 := NB101_115.out
                                                have hnb83 := NB115_106.out
                                                have hnc83 := NB106_115.out
                                                have hcz84_0 : wc.cell? ⟨gb115, 0, none⟩ = some (.int .i64 ((rd_T56 y110 x71_4).f0)) := (blk_cell BK115.out 0).trans rfl
                                                have hcz84_1 : wc.cell? ⟨gb115, 1, none⟩ = some (.int .i64 ((rd_T56 y110 x71_4).f1)) := (blk_cell BK115.out 1).trans rfl
                                                have hcz84_2 : wc.cell? ⟨gb115, 2, none⟩ = some (.int .i64 ((rd_T56 y110 x71_4).f2)) := (blk_cell BK115.out 2).trans rfl
                                                have hfz84_0 := blk_frozen BK115.out 0
                                                have hfz84_1 := blk_frozen BK115.out 1
                                                have hfz84_2 := blk_frozen BK115.out 2
                                                have hnb85 := NB106_101.out
                                                have hnc85 := NB101_106.out
                                                have hcz86_0 : wc.cell? ⟨gb106, 0, none⟩ = some (.int .i64 ((rd_T56 l0_2 x28_2).f0)) := (blk_cell BK106.out 0).trans rfl
                                                have hcz86_1 : wc.cell? ⟨gb106, 1, none⟩ = some (.int .i64 ((rd_T56 l0_2 x28_2).f1)) := (blk_cell BK106.out 1).trans rfl
                                                have hcz86_2 : wc.cell? ⟨gb106, 2, none⟩ = some (.int .i64 ((rd_T56 l0_2 x28_2).f2)) := (blk_cell BK106.out 2).trans rfl
                                                have hfz86_0 := blk_frozen BK106.out 0
                                                have hfz86_1 := blk_frozen BK106.out 1
                                                have hfz86_2 := blk_frozen BK106.out 2
                                                go_wp2_with (first | (go_at_call 74; (with_reducible refine (spec_cuLess.calls ((rd_T56 y110 x71_4).f0) ((rd_T56 y110 x71_4).f1) ((rd_T56 y110 x71_4).f2) ((rd_T56 l0_2 x28_2).f0) ((rd_T56 l0_2 x28_2).f1) ((rd_T56 l0_2 x28_2).f2) false _ A74.out).mono ?_); rintro e w87 ⟨rfl, hb⟩; have n0_ := Aside0.mk (blk_below (g := gb101) (o := .cells #[.int .i64 a0_0, .int .i64 a0_1, .slice (some ad105) l0_2.length c0_2] 37 (0, 0)) (by (with_reducible repeat (first | refine blk_drewN ?_ _ | refine blk_drew ?_ | refine blk_alloc ?_ _)); exact BK101.out) hb); have n1_ := Aside0.mk (blk_below (g := gb106) (o := .cells #[.int .i64 ((rd_T56 l0_2 x28_2).f0), .int .i64 ((rd_T56 l0_2 x28_2).f1), .int .i64 ((rd_T56 l0_2 x28_2).f2)] 56 (0, 0)) (by (with_reducible repeat (first | refine blk_drewN ?_ _ | refine blk_drew ?_ | refine blk_alloc ?_ _)); exact BK106.out) hb); have n2_ := Aside0.mk (blk_below (g := gb115) (o := .cells #[.int .i64 ((rd_T56 y110 x71_4).f0), .int .i64 ((rd_T56 y110 x71_4).f1), .int .i64 ((rd_T56 y110 x71_4).f2)] 56 (0, 0)) (by (with_reducible repeat (first | refine blk_drewN ?_ _ | refine blk_drew ?_ | refine blk_alloc ?_ _)); exact BK115.out) hb); have n3_ := Aside0.mk (below_step (by repeat (first | (with_reducible first | exact HB.out | apply below_alloc | apply pw_below_drewN | apply below_drew1 | refine below_set ?_ GE101.out | refine below_set ?_ GE106.out | refine below_set ?_ GE115.out) | exact HB.out)) hb); clear BK101; clear BK106; clear BK115; clear HB; have BK101 := n0_; have BK106 := n1_; have BK115 := n2_; have HB := n3_; clear n0_ n1_ n2_ n3_; (try clear hb); (try clear hb2); (try clear hk); (try clear hi)))
                                                go_ret
                                                exact ⟨by first | rfl | (simp [errW_none, errW_some] <;> rfl) | (simp [*, errW_none, errW_some] <;> rfl), by repeat (first | (with_reducible first | exact HB.out | apply below_alloc | apply pw_below_drewN | apply below_drew1 | refine below_set ?_ GE101.out | refine below_set ?_ GE106.out | refine below_set ?_ GE115.out) | exact HB.out)⟩
                                            · rw [if_neg c73] at H
                                              have c73b0 : (x71_4 == (wrap64 (x28_2 - 1))) = false := beq_eq_false_iff_ne.mpr c73
                                              have c73b1 : (x71_4 != (wrap64 (x28_2 - 1))) = true := bne_iff_ne.mpr c73
                                              have H' := Aside0.mk H
                                              clear H
                                              go_wp2
                                              go_roundg kj43
                                              case measure => have := HJ1.out; have := HK2.out; have := HJ16.out; have := HK4.out; have := HJ43.out; omega
                                              case rel => exact ⟨(wrap64 (x71_4 + 1)), (by first | rfl | (simp; done) | (simp [*]; done)), H', ⟨by have := HJ1.out; have := HK2.out; have := HJ16.out; have := HK4.out; have := HJ43.out; omega⟩, ⟨by (with_reducible repeat (first | refine blk_drewN ?_ _ | refine blk_drew ?_ | refine blk_alloc ?_ _)); exact BK101.out⟩, ⟨by (with_reducible repeat (first | refine blk_drewN ?_ _ | refine blk_drew ?_ | refine blk_alloc ?_ _)); exact BK106.out⟩, ⟨by repeat (first | (with_reducible first | exact HB.out | apply below_alloc | apply pw_below_drewN | apply below_drew1 | refine below_set ?_ GE101.out | refine below_set ?_ GE106.out | refine below_set ?_ GE115.out) | exact HB.out)⟩⟩
                                    · rw [if_neg c43] at H
                                      exact absurd H (by simp)
                                  · rw [if_neg c42] at H
                                    exact absurd H (by simp)
                                · rw [if_neg c41] at H
                                  have c41b0 : decide (x71_4 < (y110.length : Int)) = false := decide_eq_false c41
                                  clear c41
                                  have H' := Aside0.mk H
                                  clear H
                                  go_wp2
                                  go_roundg k4
                                  case measure => have := HJ1.out; have := HK2.out; have := HJ16.out; have := HK4.out; omega
                                  case rel => exact ⟨((wrap64 (x3_2 + (wrap64 (((rd_T56 l0_2 x28_2).f2) * ((rd_T56 l0_2 x28_2).f2)))))), (wrap64 (x28_2 + 1)), (by first | rfl | (simp; done) | (simp [*]; done)), (by first | rfl | (simp; done) | (simp [*]; done)), H', ⟨by have := HJ1.out; have := HK2.out; have := HJ16.out; have := HK4.out; omega⟩, ⟨by (with_reducible repeat (first | refine blk_drewN ?_ _ | refine blk_drew ?_ | refine blk_alloc ?_ _)); exact BK101.out⟩, ⟨by repeat (first | (with_reducible first | exact HB.out | apply below_alloc | apply pw_below_drewN | apply below_drew1 | refine below_set ?_ GE101.out | refine below_set ?_ GE106.out) | exact HB.out)⟩⟩
                          · rw [if_neg c36] at H
                            exact absurd H (by simp)
                        · rw [if_neg c35] at H
                          exact absurd H (by simp)
                · rw [if_neg c16] at H
                  exact absurd H (by simp)
              · rw [if_neg c15] at H
                exact absurd H (by simp)
            · rw [if_neg c14] at H
              have c14b0 : decide (x28_2 < (l0_2.length : Int)) = false := decide_eq_false c14
              clear c14
              obtain rfl := Option.some.inj H
              have hcz88_0 : wr.cell? ⟨gb101, 0, none⟩ = some (.int .i64 a0_0) := (blk_cell BK101.out 0).trans rfl
              have hcz88_1 : wr.cell? ⟨gb101, 1, none⟩ = some (.int .i64 a0_1) := (blk_cell BK101.out 1).trans rfl
              have hcz88_2 : wr.cell? ⟨gb101, 2, none⟩ = some (.slice A0_2 l0_2.length c0_2) := (blk_cell BK101.out 2).trans rfl
              have hfz88_0 := blk_frozen BK101.out 0
              have hfz88_1 := blk_frozen BK101.out 1
              have hfz88_2 := blk_frozen BK101.out 2
              go_wp2
              go_ret
              exact ⟨by first | rfl | (simp [errW_none, errW_some] <;> rfl) | (simp [*, errW_none, errW_some] <;> rfl), by repeat (first | (with_reducible first | exact HB.out | apply below_alloc | apply pw_below_drewN | apply below_drew1 | refine below_set ?_ GE101.out) | exact HB.out)⟩
end Go.Proofs.Ytdfcljfajiihdaa.P

namespace Go.Proofs.Ytdfcljfajiihdaa.T
def Sq.has (q : Sq) (a b : Int) : Prop := q.f0 ≤ a ∧ a < q.f0 + q.f2 ∧ q.f1 ≤ b ∧ b < q.f1 + q.f2
instance (q : Sq) (a b : Int) : Decidable (q.has a b) := by unfold Sq.has; infer_instance
def area : List Sq → Int
  | [] => 0
  | q :: T => q.f2 * q.f2 + area T
theorem area_append (A B : List Sq) : area (A ++ B) = area A + area B := by
  induction A with
  | nil => simp [area]
  | cons q A ih => simp only [List.cons_append, area, ih]; omega
def inBox (w h : Int) (q : Sq) : Prop := 1 ≤ q.f2 ∧ 0 ≤ q.f0 ∧ q.f0 + q.f2 ≤ w ∧ 0 ≤ q.f1 ∧ q.f1 + q.f2 ≤ h
def Apart (p q : Sq) : Prop := ¬ (p.f0 < q.f0 + q.f2 ∧ q.f0 < p.f0 + p.f2 ∧ p.f1 < q.f1 + q.f2 ∧ q.f1 < p.f1 + p.f2)
theorem Apart.symm {p q : Sq} (h : Apart p q) : Apart q p := by unfold Apart at *; omega
end Go.Proofs.Ytdfcljfajiihdaa.T

namespace Go.Proofs.Ytdfcljfajiihdaa.T
def ht (f : List Int) (c : Nat) : Int := f.getD c 0
def run (f : List Int) (y : Int) : Nat := match f with | [] => 0 | z :: f => if z = y then run f y + 1 else 0
def Lt (p q : Sq) : Prop := p.f1 < q.f1 ∨ p.f1 = q.f1 ∧ p.f0 < q.f0
def left (h : Int) : List Int → Nat
  | [] => 0
  | y :: f => (h - y).toNat + left h f
end Go.Proofs.Ytdfcljfajiihdaa.T

namespace Go.Proofs.Ytdfcljfajiihdaa.T
def nq (l : List Sq) (i : Nat) : Sq := l.getD i ⟨0, 0, 0⟩
theorem nq_get (l : List Sq) (i : Nat) (h : i < l.length) : nq l i = l[i] := by simp [nq, h]
theorem nq_mem (l : List Sq) (i : Nat) (h : i < l.length) : nq l i ∈ l := by rw [nq_get l i h]; exact List.getElem_mem h
theorem nq_take (l : List Sq) (n i : Nat) (h : i < n) : nq (l.take n) i = nq l i := by
  unfold nq
  rw [List.getD_eq_getElem?_getD, List.getD_eq_getElem?_getD, List.getElem?_take_of_lt h]
structure Good (W H : Int) (l : List Sq) : Prop where
  w : 1 ≤ W ∧ W ≤ 500
  h : 1 ≤ H ∧ H ≤ 500
  len : l.length ≤ 30
  box : ∀ q ∈ l, inBox W H q
  apart : l.Pairwise Apart
  lt : l.Pairwise Lt
  area : area l = W * H
def OkS (W H : Int) (l : List Sq) (i : Nat) : Prop := inBox W H (nq l i) ∧ ∀ j, j < i → Apart (nq l i) (nq l j) ∧ (j + 1 = i → Lt (nq l j) (nq l i))
theorem Lt.trans {a b c : Sq} (h : Lt a b) (k : Lt b c) : Lt a c := by unfold Lt at *; omega
theorem Lt.irrefl (a : Sq) : ¬ Lt a a := by unfold Lt; omega
theorem Lt.asymm {a b : Sq} (h : Lt a b) : ¬ Lt b a := by unfold Lt at *; omega
theorem lt_chain (l : List Sq) (n : Nat) (h : ∀ i, i + 1 < n → Lt (nq l i) (nq l (i + 1))) : ∀ d i, i + d + 1 < n → Lt (nq l i) (nq l (i + d + 1))
  | 0, i, hi => h i hi
  | d + 1, i, hi => (lt_chain l n h d i (by omega)).trans (h (i + d + 1) (by omega))
theorem good_iff (W H : Int) (l : List Sq) : Good W H l ↔ (1 ≤ W ∧ W ≤ 500) ∧ (1 ≤ H ∧ H ≤ 500) ∧ l.length ≤ 30 ∧ (∀ i, i < l.length → OkS W H l i) ∧ area l = W * H := by
  constructor
  · rintro ⟨hw, hh, hl, hb, ha, ht, har⟩
    rw [List.pairwise_iff_getElem] at ha ht
    refine ⟨hw, hh, hl, fun i hi => ⟨hb _ (nq_mem l i hi), fun j hj => ?_⟩, har⟩
    have h1 := ha j i (by omega) hi hj
    have h2 := ht j i (by omega) hi hj
    rw [← nq_get, ← nq_get] at h1 h2
    exact ⟨h1.symm, fun _ => h2⟩
  · rintro ⟨hw, hh, hl, hs, har⟩
    refine ⟨hw, hh, hl, fun q hq => ?_, ?_, ?_, har⟩
    · obtain ⟨i, hi, rfl⟩ := List.getElem_of_mem hq
      rw [← nq_get]
      exact (hs i hi).1
    · rw [List.pairwise_iff_getElem]
      intro i j hi hj hij
      rw [← nq_get l i hi, ← nq_get l j hj]
      exact (((hs j hj).2 i hij).1).symm
    · rw [List.pairwise_iff_getElem]
      intro i j hi hj hij
      rw [← nq_get l i hi, ← nq_get l j hj]
      have := lt_chain l l.length (fun i hi => ((hs (i + 1) hi).2 i (by omega)).2 rfl) (j - i - 1) i (by omega)
      rwa [show i + (j - i - 1) + 1 = j by omega] at this
open Classical in
noncomputable def goodB (W H : Int) (l : List Sq) : Bool := decide (Good W H l)
theorem goodB_iff {W H : Int} {l : List Sq} : goodB W H l = true ↔ Good W H l := by unfold goodB; simp
theorem Good.pos {W H : Int} {l : List Sq} (g : Good W H l) : 1 ≤ l.length := by
  rcases Nat.eq_zero_or_pos l.length with h | h
  · have : l = [] := List.eq_nil_of_length_eq_zero h
    have ha := g.area
    have := g.w; have := g.h
    have : 1 ≤ W * H := by
      have : (1 : Int) * 1 ≤ W * H := Int.mul_le_mul (by omega) (by omega) (by omega) (by omega)
      omega
    subst l
    simp [T.area] at ha
    omega
  · exact h
theorem area_take (l : List Sq) (i : Nat) (h : i < l.length) : area (l.take (i + 1)) = area (l.take i) + (nq l i).f2 * (nq l i).f2 := by
  rw [List.take_succ_eq_append_getElem h, area_append, nq_get l i h]
  simp [area]
theorem sq_le {a m : Int} (h0 : 0 ≤ a) (h1 : a ≤ m) : 0 ≤ a * a ∧ a * a ≤ m * m := ⟨Int.mul_nonneg h0 h0, Int.mul_le_mul h1 h1 h0 (by omega)⟩
theorem area_bd (l : List Sq) (m : Int) : ∀ n : Nat, n ≤ l.length → (∀ i, i < n → 0 ≤ (nq l i).f2 ∧ (nq l i).f2 ≤ m) → 0 ≤ area (l.take n) ∧ area (l.take n) ≤ n * (m * m)
  | 0, _, _ => by simp [area]
  | n + 1, hn, hb => by
    have ih := area_bd l m n (by omega) (fun i hi => hb i (by omega))
    have hq := hb n (by omega)
    have hs := sq_le hq.1 hq.2
    rw [area_take l n (by omega), show ((n + 1 : Nat) : Int) * (m * m) = n * (m * m) + m * m by rw [Int.natCast_succ, Int.add_mul, Int.one_mul]]
    omega
end Go.Proofs.Ytdfcljfajiihdaa.T

namespace Go.Proofs.Ytdfcljfajiihdaa.T
section
variable {α : Type} (lt : α → α → Bool) (z : α)
def insK (s : α) (out : List α) : Nat → Nat
  | 0 => 0
  | k + 1 => if lt s (out.getD k z) = true then insK s out k else k + 1
def insG (s : α) (out : List α) : List α := out.take (insK lt z s out out.length) ++ s :: out.drop (insK lt z s out out.length)
def srtF (o l : List α) : List α := l.foldl (fun o s => insG lt z s o) o
def srtG (l : List α) : List α := srtF lt z [] l
theorem insK_le (s : α) (out : List α) : ∀ k, insK lt z s out k ≤ k
  | 0 => Nat.le_refl _
  | k + 1 => by
    simp only [insK]
    split
    · have := insK_le s out k; omega
    · omega
theorem insK_above (s : α) (out : List α) : ∀ k j, insK lt z s out k ≤ j → j < k → lt s (out.getD j z) = true
  | 0, j, _, h => by omega
  | k + 1, j, h1, h2 => by
    simp only [insK] at h1
    split at h1
    · rename_i c
      by_cases e : j = k
      · subst e; exact c
      · exact insK_above s out k j h1 (by omega)
    · omega
theorem insK_at (s : α) (out : List α) : ∀ k, insK lt z s out k = 0 ∨ lt s (out.getD (insK lt z s out k - 1) z) = false
  | 0 => .inl rfl
  | k + 1 => by
    simp only [insK]
    split
    · exact insK_at s out k
    · rename_i c
      exact .inr (by simpa using c)
theorem insG_perm (s : α) (out : List α) : (insG lt z s out).Perm (s :: out) := by
  unfold insG
  refine List.perm_middle.trans ?_
  rw [List.take_append_drop]
theorem srtF_perm : ∀ (l o : List α), (srtF lt z o l).Perm (o ++ l)
  | [], o => by simp [srtF]
  | s :: l, o => by
    refine (srtF_perm l (insG lt z s o)).trans ?_
    refine ((insG_perm lt z s o).append_right l).trans ?_
    exact List.perm_middle.symm
theorem srtG_perm (l : List α) : (srtG lt z l).Perm l := by have := srtF_perm lt z l []; rwa [List.nil_append] at this
def Up (l : List α) : Prop := l.Pairwise (fun a b => lt b a = false)
variable {lt}
theorem Up.ins (hA : ∀ a b, lt a b = true → lt b a = false) (hN : ∀ a b c, lt a b = false → lt b c = false → lt a c = false) {s : α} {out : List α} (h : Up lt out) : Up lt (insG lt z s out) := by
  unfold insG Up at *
  generalize hk : insK lt z s out out.length = k
  have hle := insK_le lt z s out out.length
  have hab := insK_above lt z s out out.length
  have hat := insK_at lt z s out out.length
  rw [hk] at hle hab hat
  rw [List.pairwise_append, List.pairwise_cons]
  refine ⟨h.take, ⟨fun b hb => ?_, h.drop⟩, fun a ha b hb => ?_⟩
  · obtain ⟨j, hj, rfl⟩ := List.getElem_of_mem hb
    rw [List.length_drop] at hj
    rw [List.getElem_drop]
    have := hab (k + j) (by omega) (by omega)
    rw [List.getD_eq_getElem?_getD, List.getElem?_eq_getElem (by omega)] at this
    exact hA _ _ this
  · obtain ⟨i, hi, rfl⟩ := List.getElem_of_mem ha
    rw [List.length_take] at hi
    rw [List.getElem_take]
    rcases List.mem_cons.1 hb with rfl | hb
    · rcases hat with h0 | h0
      · omega
      · rw [List.getD_eq_getElem?_getD, List.getElem?_eq_getElem (by omega)] at h0
        simp only [Option.getD_some] at h0
        by_cases e : i = k - 1
        · subst e; exact h0
        · exact hN _ _ _ h0 (List.pairwise_iff_getElem.1 h i (k - 1) (by omega) (by omega) (by omega))
    · obtain ⟨j, hj, rfl⟩ := List.getElem_of_mem hb
      rw [List.length_drop] at hj
      rw [List.getElem_drop]
      exact List.pairwise_iff_getElem.1 h i (k + j) (by omega) (by omega) (by omega)
theorem srtF_up (hA : ∀ a b, lt a b = true → lt b a = false) (hN : ∀ a b c, lt a b = false → lt b c = false → lt a c = false) : ∀ (l o : List α), Up lt o → Up lt (srtF lt z o l)
  | [], _, h => h
  | s :: l, o, h => srtF_up hA hN l (insG lt z s o) (h.ins z hA hN)
theorem srtG_up (hA : ∀ a b, lt a b = true → lt b a = false) (hN : ∀ a b c, lt a b = false → lt b c = false → lt a c = false) (l : List α) : Up lt (srtG lt z l) := srtF_up z hA hN l [] List.Pairwise.nil
theorem up_unique : ∀ {A B : List α}, A.Perm B → A.Pairwise (fun a b => lt a b = true) → Up lt B → A = B
  | [], B, hp, _, _ => (List.nil_perm.1 hp).symm
  | a :: A, [], hp, _, _ => (List.perm_nil.1 hp)
  | a :: A, b :: B, hp, hA, hB => by
    have h1 := List.pairwise_cons.1 hA
    have h2 := List.pairwise_cons.1 hB
    have ha : a ∈ b :: B := hp.mem_iff.1 List.mem_cons_self
    have hb : b ∈ a :: A := hp.mem_iff.2 List.mem_cons_self
    have e : a = b := by
      rcases List.mem_cons.1 ha with e | ha
      · exact e
      · rcases List.mem_cons.1 hb with e | hb
        · exact e.symm
        · have := h1.1 b hb
          rw [h2.1 a ha] at this; cases this
    subst e
    rw [up_unique (List.Perm.cons_inv hp) h1.2 h2.2]
theorem srtG_eq (hA : ∀ a b, lt a b = true → lt b a = false) (hN : ∀ a b c, lt a b = false → lt b c = false → lt a c = false) {l A : List α} (hp : A.Perm l) (h : A.Pairwise (fun a b => lt a b = true)) : srtG lt z l = A :=
  (up_unique (hp.trans (srtG_perm lt z l).symm) h (srtG_up z hA hN l)).symm
end
def ltb (a b : Sq) : Bool := decide (a.f1 < b.f1) || (decide (a.f1 = b.f1) && decide (a.f0 < b.f0))
theorem ltb_iff {a b : Sq} : ltb a b = true ↔ Lt a b := by unfold ltb Lt; simp
theorem ltb_not {a b : Sq} : ltb a b = false ↔ ¬ Lt a b := by rw [← ltb_iff]; simp
theorem ltb_asymm (a b : Sq) (h : ltb a b = true) : ltb b a = false := by rw [ltb_iff] at h; rw [ltb_not]; exact h.asymm
theorem ltb_ntrans (a b c : Sq) (h : ltb a b = false) (k : ltb b c = false) : ltb a c = false := by rw [ltb_not] at *; unfold Lt at *; omega
def srt (l : List Sq) : List Sq := srtG ltb ⟨0, 0, 0⟩ l
theorem srt_perm (l : List Sq) : (srt l).Perm l := srtG_perm _ _ l
theorem srt_eq {l A : List Sq} (hp : A.Perm l) (h : A.Pairwise Lt) : srt l = A := srtG_eq _ ltb_asymm ltb_ntrans hp (h.imp (fun h => ltb_iff.2 h))
structure Fill (W H : Int) (l : List Sq) : Prop where
  box : ∀ q ∈ l, inBox W H q
  apart : l.Pairwise Apart
  area : area l = W * H
theorem apart_place {W H : Int} {a b : Sq} (ha : inBox W H a) (hb : inBox W H b) (h : Apart a b) : ¬ (a.f1 = b.f1 ∧ a.f0 = b.f0) := by
  unfold inBox at *; unfold Apart at h; omega
theorem Fill.lt {W H : Int} {l : List Sq} (h : Fill W H l) (hu : Up ltb l) : l.Pairwise Lt := by
  refine List.Pairwise.imp_of_mem ?_ (List.Pairwise.and hu h.apart)
  intro a b ha hb hab
  have h1 := apart_place (h.box a ha) (h.box b hb) hab.2
  have h2 := ltb_not.1 hab.1
  unfold Lt at *; omega
end Go.Proofs.Ytdfcljfajiihdaa.T

namespace Go.Proofs.Ytdfcljfajiihdaa.T
end Go.Proofs.Ytdfcljfajiihdaa.T

namespace Go.Proofs.Ytdfcljfajiihdaa.T
end Go.Proofs.Ytdfcljfajiihdaa.T

namespace Go.Proofs.Ytdfcljfajiihdaa.T
end Go.Proofs.Ytdfcljfajiihdaa.T

namespace Go.Proofs.Ytdfcljfajiihdaa.T
end Go.Proofs.Ytdfcljfajiihdaa.T

namespace Go.Proofs.Ytdfcljfajiihdaa.T
def Bef (a b : Sq) : Prop := a.f0 < b.f0 ∨ a.f0 = b.f0 ∧ (a.f1 < b.f1 ∨ a.f1 = b.f1 ∧ a.f2 < b.f2)
instance (a b : Sq) : Decidable (Bef a b) := by unfold Bef; infer_instance
def lexB : List Sq → List Sq → Bool
  | [], [] => false
  | [], _ :: _ => true
  | _ :: _, [] => false
  | s :: a, q :: b => if s = q then lexB a b else decide (Bef s q)
theorem Bef.irrefl (a : Sq) : ¬ Bef a a := by unfold Bef; omega
theorem Bef.trans {a b c : Sq} (h : Bef a b) (k : Bef b c) : Bef a c := by unfold Bef at *; omega
theorem Bef.asymm {a b : Sq} (h : Bef a b) : ¬ Bef b a := by unfold Bef at *; omega
end Go.Proofs.Ytdfcljfajiihdaa.T

namespace Go.Proofs.Ytdfcljfajiihdaa.Aid
open Go.RowKit Go.Proofs.YtdfcljfajiihdaaW.PrintWords Go.Proofs.YtdfcljfajiihdaaW.PrintMore
theorem w64 {e : Int} (h0 : -9223372036854775808 ≤ e) (h1 : e ≤ 9223372036854775807) : wrap64 e = e := by unfold wrap64; omega
theorem ev_pos {α : Type} {c : Prop} [Decidable c] {a b : Nat → Option α} {r : α} (h : c) (e : Ev a r) : Ev (fun k => if c then a k else b k) r := by simpa only [if_pos h] using e
theorem ev_neg {α : Type} {c : Prop} [Decidable c] {a b : Nat → Option α} {r : α} (h : ¬ c) (e : Ev b r) : Ev (fun k => if c then a k else b k) r := by simpa only [if_neg h] using e
theorem ev_some {α : Type} {r s : α} (h : s = r) : Ev (fun _ => some s) r := by subst h; exact Ev.now _
theorem ev_bind {α β : Type} {g : Nat → Option α} {f : Nat → α → Option β} {a : α} {r : β} (h : Ev g a) (k : Ev (fun n => f n a) r) : Ev (fun n => (g n).bind (f n)) r := Ev.bind h k
theorem ev_call {α β : Type} {g : Option α} {f : Nat → α → Option β} {a : α} {r : β} (h : g = some a) (k : Ev (fun n => f n a) r) : Ev (fun n => g.bind (f n)) r := by subst h; exact k
theorem ev_at {α : Type} {g : Nat → Option α} {r : α} (h : Ev g r) : ∃ k, g k = some r := Ev.rounds h
theorem mn_min (a b : Int) : mn a b = min a b := by unfold mn; omega
def inR (n lo hi : Int) : Bool := decide (lo ≤ n) && decide (n ≤ hi)
theorem inR_iff {n lo hi : Int} : inR n lo hi = true ↔ lo ≤ n ∧ n ≤ hi := by simp [inR]
end Go.Proofs.Ytdfcljfajiihdaa.Aid

namespace Go.Proofs.Ytdfcljfajiihdaa.Gr
open Go Go.RowKit
structure Gr (X : World) where
  W : World
  h : Below X.heap.size X W
instance (X : World) : Inhabited (Gr X) := ⟨⟨X, Below.refl _ _⟩⟩
theorem wp_region_gr {P : Program} {id : Nat} {Q : Exit → Act → World → Prop} {a : Act} {X : World} {l : List Oper} (hm : P.follows .mixedOrders = true) (hB : Region.lexB .any l.toArray = true)
    (h : wpQuiet P l.toArray (fun W => ∃ p : Gr X, W = p.W) (fun a' => ∀ w', (∃ p : Gr X, w' = p.W) → Q .normal a' w') l a) : (Code.region id l.toArray true).wp P Q a X :=
  wp_region_quiet (C := fun W => ∃ p : Gr X, W = p.W) hm hB ⟨⟨{ X with drawn := X.drawn + 1 }, (Below.refl X.heap.size X).drew⟩, rfl⟩ (by simpa using h)
theorem cell_gr {X : World} {a : Addr} {v : Value} (hb : a.block < X.heap.size) (h : X.cell? a = some v) (p : Gr X) : p.W.cell? a = some v := (p.h.cell hb).trans h
theorem Calls.gr_of {P : Program} {f : FuncId} {args : Array Value} {X : World} {p : Gr X} {v : Value} (h : Calls P f args p.W fun e w' => e = .returned v ∧ Below p.W.heap.size p.W w') :
    Calls P f args p.W fun e w'' => e = .returned v ∧ ∃ q : Gr X, w'' = q.W :=
  h.mono fun _ w' ⟨he, hb⟩ => ⟨he, ⟨⟨w', p.h.trans (hb.mono p.h.size)⟩, rfl⟩⟩
end Go.Proofs.Ytdfcljfajiihdaa.Gr

namespace Go.Proofs.Ytdfcljfajiihdaa.P
open Go.RowKit Go.Proofs.YtdfcljfajiihdaaW.PrintWords Go.Proofs.YtdfcljfajiihdaaW.PrintLast Go.Proofs.YtdfcljfajiihdaaW.PrintMore
attribute [local go_sem] max2_int min2_int max_two min_two max_three min_three max_four min_four
set_option linter.unusedVariables false
set_option linter.unusedSimpArgs false
open Go.Proofs.Ytdfcljfajiihdaa.T Go.Proofs.Ytdfcljfajiihdaa.Aid Go.Proofs.Ytdfcljfajiihdaa.Gr
def spec_cuSorted.f (k : Nat) (l0 : List S56) : Option (List S56) := if l0.length ≤ 500000 then some (srt l0) else none
theorem cuLess_s (a b : Sq) : spec_cuLess.f a.f0 a.f1 a.f2 b.f0 b.f1 b.f2 = some (ltb a b) := by
  unfold spec_cuLess.f ltb
  by_cases c1 : a.f1 < b.f1
  · simp [c1]
  · by_cases c2 : a.f1 = b.f1 <;> simp [c1, c2]
theorem rd_sqs (l : List Sq) (i : Nat) : rd_T56 l (i : Int) = l.getD i ⟨0, 0, 0⟩ := by unfold rd_T56; rw [Int.toNat_natCast]; rfl
theorem srtF_drop (l o : List Sq) (i : Nat) (hi : i < l.length) : srtF ltb ⟨0, 0, 0⟩ o (l.drop i) = srtF ltb ⟨0, 0, 0⟩ (insG ltb ⟨0, 0, 0⟩ (l.getD i ⟨0, 0, 0⟩) o) (l.drop (i + 1)) := by
  have e : l.drop i = l.getD i ⟨0, 0, 0⟩ :: l.drop (i + 1) := by
    rw [List.drop_eq_getElem_cons hi]
    simp [hi]
  rw [e]; rfl
theorem insG_lencs {α : Type} (lt : α → α → Bool) (z s : α) (out : List α) : (insG lt z s out).length = out.length + 1 := by
  have := (insG_perm lt z s out).length_eq
  simpa using this
theorem R_slcs {α : Type} {d : Kd α} {w : World} {base e : Nat} {ok : Nat → Prop} {v : Value} {xs : List α} (h : d.R e w base ok v xs) : ∃ A n c, v = .slice A n c := by
  obtain ⟨A, c, e⟩ := Kd.R_slice h
  exact ⟨_, _, _, e⟩
theorem R_emptycs (W : World) (base : Nat) (hb : base ≤ W.heap.size) : Kd.R k56 56 (W.alloc (.cells #[] 56)) base (fun _ => True) (.slice (some ⟨W.heap.size, 0, none⟩) 0 0) [] :=
  ⟨fun k hk => trivial, [], World.ownsRow_lit (base := base) (e := 56) (size := 3) W #[] 0 hb (by simp [maxLen]) (by simp), Reps.none _ _⟩
theorem C_of_blkcs {W : World} {L : Nat} (q : Sq) (h : W.heap[L]? = some (.cells #[.int .i64 q.f0, .int .i64 q.f1, .int .i64 q.f2] 56 (0, 0))) : Kd.C k56 W (some ⟨L, 0, none⟩) 1 [q] := by
  have hh : Kd.R k56 56 W 0 (fun _ => True) (.slice (some ⟨L, 0, none⟩) 1 1) [q] :=
    ⟨fun k hk => trivial, [.int .i64 q.f0, .int .i64 q.f1, .int .i64 q.f2], ⟨by rfl, .inr ⟨L, 1, _, rfl, Nat.zero_le _, h, Nat.le_refl _, by simp [maxLen], by rfl, by rfl⟩⟩, Reps.c3 (k56_mkM _ _ _ q) (Reps.none _ _)⟩
  exact (Kd.R_reads' hh).2.2
set_option maxHeartbeats 4000000 in
set_option maxRecDepth 100000 in
theorem spec_cuSorted.calls (k : Nat) (A0 : Option Addr) (c0 : Nat) (l0 : List S56) (r : List S56) (w : World) (hr0 : Kd.C k56 w A0 l0.length l0) (hc0 : l0.length ≤ c0) (h : spec_cuSorted.f k l0 = some r) :
    Calls Try.prog 83 #[.slice A0 l0.length c0] w fun e w' => ∃ v0_ : Value, e = .returned (v0_) ∧ Kd.R k56 56 w' w.heap.size (fun _ => True) v0_ r ∧ Below w.heap.size w w' := by
  unfold spec_cuSorted.f at h
  by_cases hl : l0.length ≤ 500000
  · rw [if_pos hl] at h
    have hr := Option.some.inj h
    clear h
    have HR0 := Aside0.mk hr0
    have HL := Aside0.mk hl
    have HRES := Aside0.mk hr
    clear hr0 hr
    have hu60 := Try.underlying56
    go_enter Try.func83, Try.ntmps83
    go_wp2_with fail
    go_loopg [3, 10] l0.length (fun kq v3 v10 wc => ∃ (i : Nat) (xi : Int) (out : List S56), i ≤ l0.length ∧ l0.length - i ≤ kq ∧ (i : Int) = xi ∧ v10 = .int .i64 xi ∧ Aside0 (out.length = i ∧ srtF ltb ⟨0, 0, 0⟩ out (l0.drop i) = srt l0) ∧ Aside0 (Kd.R k56 56 wc w.heap.size (fun _ => True) v3 out) ∧ Aside0 (Below w.heap.size w wc))
    case atStart => exact ⟨0, 0, [], by omega, by omega, rfl, rfl, ⟨rfl, rfl⟩, ⟨Kd.R_nil _ _ _ _ _⟩, ⟨Below.refl _ _⟩⟩
    case round =>
      obtain ⟨i, xi, out, hi, hk, hxi, rfl, HV, HO, HB⟩ := hrel
      by_cases hlt : i < l0.length
      · have b1 : decide (xi < (l0.length : Int)) = true := decide_eq_true (by omega)
        obtain ⟨ad, e1, h0, h1, h2⟩ := at_T56 HR0.out xi (by omega) (by omega)
        cases e1
        replace h0 := (HB.out.cell (World.block_lt_of_cell? w _ h0)).trans h0
        replace h1 := (HB.out.cell (World.block_lt_of_cell? w _ h1)).trans h1
        replace h2 := (HB.out.cell (World.block_lt_of_cell? w _ h2)).trans h2
        have q1 := eq_true (show 0 ≤ xi by omega)
        have q2 := eq_true (show xi < (l0.length : Int) by omega)
        obtain ⟨s, hs⟩ : ∃ s, rd_T56 l0 xi = s := ⟨_, rfl⟩
        rw [hs] at h0 h1 h2
        have HSV : Aside0 (l0.getD i ⟨0, 0, 0⟩ = s) := ⟨by rw [← rd_sqs, hxi]; exact hs⟩
        obtain ⟨A1, c1, e1⟩ := Kd.R_slice HO.out
        subst e1
        have HI := Aside0.mk (And.intro hi (And.intro hk (And.intro hxi hlt)))
        clear hi hk hxi hlt hs
        go_wp2_with (first | ((with_reducible refine gate_dst (N := 5) rfl ?_); refine box_event ?hg (N := 5) ?hd (cs := #[.int .i64 0, .int .i64 0, .int .i64 0]) (t := 56) ?hr ?_; (case hd => rfl); (case hg => rfl); (case hr => first | (go_simp; done) | (go_simp; rfl)); intro gb hg w5 hbox hb; have HBX := Aside0.mk hbox; have HB5 := Aside0.mk hb; have HG := Aside0.mk hg; have hcz0 : w5.cell? ⟨gb, 0, none⟩ = some (.int .i64 0) := (blk_cell hbox 0).trans rfl; have hcz1 : w5.cell? ⟨gb, 1, none⟩ = some (.int .i64 0) := (blk_cell hbox 1).trans rfl; have hcz2 : w5.cell? ⟨gb, 2, none⟩ = some (.int .i64 0) := (blk_cell hbox 2).trans rfl; have hfz0 := blk_frozen hbox 0; have hfz1 := blk_frozen hbox 1; have hfz2 := blk_frozen hbox 2; clear hb hbox hg))
        have GE : w.heap.size ≤ gb := by rw [HG.out]; exact HB.out.size
        have HO5 := Kd.R_below (Kd.R_elderB HO.out gb (Nat.le_of_eq HG.out.symm)) HB5.out
        have HO6 : Aside0 (Kd.R k56 56 (((w5.setCell ⟨gb, 0, none⟩ (.int .i64 s.f0)).setCell ⟨gb, 1, none⟩ (.int .i64 s.f1)).setCell ⟨gb, 2, none⟩ (.int .i64 s.f2)) w.heap.size (fun k_ => k_ ≠ gb) (.slice A1 out.length c1) out) := ⟨Kd.R_mono (Kd.R_far (p := ⟨gb, 2, none⟩) (Kd.R_far (p := ⟨gb, 1, none⟩) (Kd.R_far (p := ⟨gb, 0, none⟩) (Kd.R_mono HO5 (fun k_ hk => (⟨hk, hk.2⟩ : _ ∧ k_ ≠ gb))) (fun _ hk => hk.2) (.int .i64 s.f0)) (fun _ hk => hk.2) (.int .i64 s.f1)) (fun _ hk => hk.2) (.int .i64 s.f2)) (fun _ hk => hk.2)⟩
        have HX6 : Aside0 ((((w5.setCell ⟨gb, 0, none⟩ (.int .i64 s.f0)).setCell ⟨gb, 1, none⟩ (.int .i64 s.f1)).setCell ⟨gb, 2, none⟩ (.int .i64 s.f2)).heap[gb]? = some (.cells #[.int .i64 s.f0, .int .i64 s.f1, .int .i64 s.f2] 56 (0, 0))) := ⟨blk_put (cs := #[.int .i64 s.f0, .int .i64 s.f1, .int .i64 0]) (blk_put (cs := #[.int .i64 s.f0, .int .i64 0, .int .i64 0]) (blk_put (cs := #[.int .i64 0, .int .i64 0, .int .i64 0]) HBX.out 0 _ rfl) 1 _ rfl) 2 _ rfl⟩
        have HB6 : Aside0 (Below w.heap.size w (((w5.setCell ⟨gb, 0, none⟩ (.int .i64 s.f0)).setCell ⟨gb, 1, none⟩ (.int .i64 s.f1)).setCell ⟨gb, 2, none⟩ (.int .i64 s.f2))) := ⟨below_set (below_set (below_set (below_step HB.out HB5.out) GE) GE) GE⟩
        generalize (((w5.setCell ⟨gb, 0, none⟩ (.int .i64 s.f0)).setCell ⟨gb, 1, none⟩ (.int .i64 s.f1)).setCell ⟨gb, 2, none⟩ (.int .i64 s.f2)) = W6 at HO6 HX6 HB6 ⊢
        clear HBX HB5 HO5 hcz0 hcz1 hcz2 hfz0 hfz1 hfz2 h0 h1 h2 b1 q1 q2 HG HO HB
        go_loopg [6] out.length (fun kq v6 wc => ∃ (j : Nat) (ji : Int), j ≤ out.length ∧ j ≤ kq ∧ (j : Int) = ji ∧ v6 = .int .i64 ji ∧ Aside0 (insK ltb ⟨0, 0, 0⟩ s out out.length = insK ltb ⟨0, 0, 0⟩ s out j) ∧ Aside0 (Below W6.heap.size W6 wc))
        case atStart => exact ⟨out.length, _, Nat.le_refl _, Nat.le_refl _, rfl, rfl, ⟨rfl⟩, ⟨Below.refl _ _⟩⟩
        case round =>
          obtain ⟨j, ji, hj, hjk, hji, rfl, HV2, HB7⟩ := hrel
          have HO7 := Aside0.mk (Kd.R_below HO6.out HB7.out)
          have HX7 := Aside0.mk (blk_below HX6.out HB7.out)
          have HJ := Aside0.mk (And.intro hj (And.intro hjk hji))
          have hol : out.length ≤ 500000 := by have h1 := HV.out.1; have h2 := HI.out.1; have h3 := HL.out; omega
          obtain ⟨jp, hjp⟩ : ∃ jp : Int, ji - 1 = jp := ⟨_, rfl⟩
          have hwj : wrap64 (ji - 1) = jp := by rw [w64 (by omega) (by omega)]; exact hjp
          have HJP := Aside0.mk (And.intro hjp hwj)
          clear hj hjk hji hjp hwj
          go_upto_region 6 with (fail)
          go_cut [26] (fun v26 wc => ∃ b : Bool, v26 = .bool b ∧ Aside0 (if b = true then 0 < j ∧ insK ltb ⟨0, 0, 0⟩ s out j = insK ltb ⟨0, 0, 0⟩ s out (j - 1) else insK ltb ⟨0, 0, 0⟩ s out j = j) ∧ Aside0 (Below wr.heap.size wr wc))
          case first => as_aux_lemma =>
            have hj1 := HJ.out
            rcases Nat.eq_zero_or_pos j with hz | hz
            · subst hz
              have z1 : decide ((0 : Int) < ji) = false := decide_eq_false (by omega)
              clear hj1
              refine wp_region_gr (by kernel_rfl) (by kernel_rfl) ?_
              repeat (go_big_quiet_step (fail))
              refine wpQuiet_nil ?_
              intro W2 hw'
              obtain ⟨⟨V2, hB2⟩, hw''⟩ := hw'
              replace hw'' : W2 = V2 := hw''
              subst hw''
              try go_wp2_with fail
              go_meet
              case rel => exact ⟨false, rfl, ⟨rfl⟩, ⟨hB2⟩⟩
            · have z1 : decide ((0 : Int) < ji) = true := decide_eq_true (by omega)
              have hjp := HJP.out.1
              have hwj := HJP.out.2
              obtain ⟨ad2, e2, g0, g1, g2⟩ := at_T56 (Kd.R_reads' HO7.out).2.2 jp (by omega) (by omega)
              cases e2
              obtain ⟨p, hp⟩ : ∃ p, rd_T56 out jp = p := ⟨_, rfl⟩
              rw [hp] at g0 g1 g2
              have HP : Aside0 (out.getD (j - 1) ⟨0, 0, 0⟩ = p) := ⟨by rw [← rd_sqs, ← hp]; congr 1; omega⟩
              have q1 := eq_true (show 0 ≤ jp by omega)
              have q2 := eq_true (show jp < (out.length : Int) by omega)
              have HCL : Aside0 (∀ W, Calls Try.prog 74 #[.agg #[.int .i64 s.f0, .int .i64 s.f1, .int .i64 s.f2], .agg #[.int .i64 p.f0, .int .i64 p.f1, .int .i64 p.f2]] W fun e w' => e = .returned (.bool (ltb s p)) ∧ Below W.heap.size W w') := ⟨fun W => spec_cuLess.calls _ _ _ _ _ _ _ W (cuLess_s s p)⟩
              have HBV : Aside0 (if ltb s p = true then 0 < j ∧ insK ltb ⟨0, 0, 0⟩ s out j = insK ltb ⟨0, 0, 0⟩ s out (j - 1) else insK ltb ⟨0, 0, 0⟩ s out j = j) := ⟨by
                have e : insK ltb ⟨0, 0, 0⟩ s out j = if ltb s p = true then insK ltb ⟨0, 0, 0⟩ s out (j - 1) else j := by
                  obtain ⟨j', rfl⟩ : ∃ j', j = j' + 1 := ⟨j - 1, by omega⟩
                  have := HP.out
                  rw [Nat.add_sub_cancel] at this
                  rw [insK, this, Nat.add_sub_cancel]
                rw [e]
                split
                · exact ⟨hz, rfl⟩
                · rfl⟩
              generalize ltb s p = b at HCL HBV
              have l1 := blk_lt HX7.out
              have l2 := World.block_lt_of_cell? wr _ g0
              have x0 := fun p => cell_gr (p := p) l1 ((blk_cell HX7.out 0).trans rfl)
              have x1 := fun p => cell_gr (p := p) l1 ((blk_cell HX7.out 1).trans rfl)
              have x2 := fun p => cell_gr (p := p) l1 ((blk_cell HX7.out 2).trans rfl)
              have x3 := fun p => cell_gr (p := p) l2 g0
              have x4 := fun p => cell_gr (p := p) (World.block_lt_of_cell? wr _ g1) g1
              have x5 := fun p => cell_gr (p := p) (World.block_lt_of_cell? wr _ g2) g2
              clear hj1 hjp hp g0 g1 g2 l1 l2
              refine wp_region_gr (by kernel_rfl) (by kernel_rfl) ?_
              repeat (go_big_quiet_step (first | (go_at_call 74; refine Calls.gr_of (HCL.out _))))
              refine wpQuiet_nil ?_
              intro W2 hw'
              obtain ⟨⟨V2, hB2⟩, hw''⟩ := hw'
              replace hw'' : W2 = V2 := hw''
              subst hw''
              try go_wp2_with fail
              go_meet
              case rel => exact ⟨b, rfl, HBV, ⟨hB2⟩⟩
          case rest =>
            obtain ⟨b, rfl, HBV, HB8⟩ := hcut
            have HB9 := Aside0.mk (HB7.out.trans (HB8.out.mono HB7.out.size))
            cases b with
            | true =>
              have hd := HBV.out
              rw [if_pos rfl] at hd
              have HD := Aside0.mk hd
              have hwj := HJP.out.2
              clear hd
              go_wp2_with fail
              go_roundg (j - 1)
              case measure => have h1 := HD.out.1; have h2 := HJ.out.2.1; omega
              case rel => exact ⟨j - 1, jp, by have := HJ.out.1; omega, by omega, by have h1 := HD.out.1; have h2 := HJ.out.2.2; have h3 := HJP.out.1; omega, by first | rfl | rw [hwj], ⟨HV2.out.trans HD.out.2⟩, HB9⟩
            | false =>
              have hd := HBV.out
              rw [if_neg (by decide)] at hd
              have HD : Aside0 (insK ltb ⟨0, 0, 0⟩ s out out.length = j) := ⟨HV2.out.trans hd⟩
              clear hd HBV HJP HV2 HB8 HO7 HX7 HB7
              go_upto_region 8 with (fail)
              obtain ⟨w5, rfl⟩ : ∃ w5 : World, w5 = wc := ⟨_, rfl⟩
              have HO8 := Aside0.mk (Kd.R_below HO6.out HB9.out)
              have HX8 := Aside0.mk (blk_below HX6.out HB9.out)
              have HJI : Aside0 (0 ≤ ji ∧ ji ≤ out.length ∧ ji.toNat = j) := ⟨by have h1 := HJ.out.1; have h2 := HJ.out.2.2; omega⟩
              obtain ⟨i0, hi0, _, hsz, _⟩ := info_parts info56
              have hroom : out.length ≤ c1 := (Kd.R_reads' HO8.out).2.1
              have hcutt := cut_to (P := Try.prog) 35 56 .i64 Try.underlying35 hi0 A1 out.length c1 ji HJI.out.1 HJI.out.2.1 hroom
              have hcutf := cut_from (P := Try.prog) 35 56 .i64 Try.underlying35 hi0 3 hsz A1 out.length c1 ji HJI.out.1 HJI.out.2.1
              have HTK := Aside0.mk (Kd.C_take (m := ji.toNat) (Kd.R_reads' HO8.out).2.2 (by have := HJI.out; omega))
              have hdr : Kd.C k56 w5 (if c1 = ji.toNat then A1 else A1.map (·.add (ji.toNat * 3))) (out.drop ji.toNat).length (out.drop ji.toNat) := Kd.C_drop (m := ji.toNat) (c := c1) (Kd.R_reads' HO8.out).2.2 (by have := HJI.out; omega) hroom
              have hl1 : (out.take ji.toNat).length = ji.toNat := by rw [List.length_take]; have := HJI.out; omega
              have hl2 : (out.drop ji.toNat).length = out.length - ji.toNat := List.length_drop
              rw [← hl1] at hcutt
              obtain ⟨AD, hAD⟩ : ∃ AD, (if c1 = ji.toNat then A1 else A1.map (·.add (ji.toNat * 3))) = AD := ⟨_, rfl⟩
              obtain ⟨cD, hcD⟩ : ∃ cD, c1 - ji.toNat = cD := ⟨_, rfl⟩
              rw [hAD] at hdr
              rw [hAD, hcD, ← hl2] at hcutf
              have HOL : Aside0 (out.length ≤ 500000) := ⟨by have h1 := HV.out.1; have h2 := HI.out.1; have h3 := HL.out; omega⟩
              obtain ⟨sq, hsq⟩ : ∃ sq, out.take ji.toNat = sq := ⟨_, rfl⟩
              obtain ⟨dq, hdq⟩ : ∃ dq, out.drop ji.toNat = dq := ⟨_, rfl⟩
              have HSQ : Aside0 (sq.length ≤ 500000) := ⟨by rw [← hsq, List.length_take]; have := HOL.out; omega⟩
              have HDQ : Aside0 (dq.length ≤ 500000) := ⟨by rw [← hdq, List.length_drop]; have := HOL.out; omega⟩
              have HINS : Aside0 (insG ltb ⟨0, 0, 0⟩ s out = sq ++ [s] ++ dq) := ⟨by
                unfold insG
                rw [HD.out, ← hsq, ← hdq, HJI.out.2.2]; simp⟩
              have HSC5 := HTK
              rw [hsq] at hcutt HSC5
              rw [hdq] at hcutf hdr
              have HDC5 := Aside0.mk hdr
              have HP6 : Aside0 (∀ W, Below w5.heap.size w5 W → W.cell? ⟨gb, 0, none⟩ = some (.int .i64 s.f0) ∧ W.cell? ⟨gb, 1, none⟩ = some (.int .i64 s.f1) ∧ W.cell? ⟨gb, 2, none⟩ = some (.int .i64 s.f2)) := ⟨fun W hW => ⟨(blk_cell (blk_below HX8.out hW) 0).trans rfl, (blk_cell (blk_below HX8.out hW) 1).trans rfl, (blk_cell (blk_below HX8.out hW) 2).trans rfl⟩⟩
              have HB10 := Aside0.mk (HB6.out.trans (HB9.out.mono HB6.out.size))
              clear HTK hdr hl1 hl2 hsq hdq hAD hcD hi0 hsz hroom
              have q3 := eq_true HJI.out.1
              have q4 := eq_true HJI.out.2.1
              go_cut [7] (fun v7 wc => Aside0 (Kd.R k56 56 wc w5.heap.size (fun _ => True) v7 (sq ++ [s])) ∧ Aside0 (Below w5.heap.size w5 wc))
              case first => as_aux_lemma =>
                obtain ⟨p50, p51, p52⟩ := HP6.out w5 (Below.refl _ _)
                obtain ⟨p5a, p5b, p5c⟩ := HP6.out (w5.alloc (.cells #[] 56)) (below_alloc (Below.refl _ _) _)
                go_region_law (first | (refine Kd.R_append_rows_step k56 (w0 := w5) w5.heap.size (by simp [Region.wanted]) (.tmp 29) (.tmp 32) 35 56 (.agg #[.int .i64 0, .int .i64 0, .int .i64 0]) 24 rfl Try.underlying35 info56 rfl (by decide) (by omega) (.slice (some ⟨w5.heap.size, 0, none⟩) 0 0) [] sq _ _ _ (fun _ => True) (fun _ => False) rfl rfl ?aO ?aR (fun _ _ h => h) (fun _ h => h.elim) (fun _ _ => trivial) ?aB ?aS ?aL ?_; (case aO => exact (by first | exact R_emptycs _ _ (by simp) | exact Kd.R_drew (R_emptycs _ _ (by simp)) | exact Kd.R_drew (Kd.R_alloc (R_emptycs _ _ (by simp)) _) | exact Kd.R_alloc (R_emptycs _ _ (by simp)) _)); (case aR => exact (show Kd.C k56 _ A1 sq.length sq from by (with_reducible repeat (first | refine Kd.C_alloc ?_ _ | refine Kd.C_drew ?_)); exact HSC5.out)); (case aB => exact (by repeat (first | exact Below.refl _ _ | apply below_alloc | apply below_drew))); (case aS => exact (by simp; try omega)); (case aL => exact (by have := HSQ.out; simp; omega)); intro v118 w6 ho hb hg hat; obtain ⟨A6, n6, c6, e6⟩ := R_slcs ho; subst e6; rw [List.nil_append] at ho; have HR6 := Aside0.mk ho; have HB6 := Aside0.mk hb; obtain ⟨p60, p61, p62⟩ := HP6.out _ hb; (first | (have hq6 := blk_grown (w1 := w6) (heap_alloc_new (w5.drew.alloc (.cells #[] 56)) (.cells #[.int .i64 s.f0, .int .i64 s.f1, .int .i64 s.f2] 56)) hg (by first | (simp [Value.ownBlock]; done) | (intro h_; injection h_ with h_; omega))) | skip); clear ho hb hg hat) | (refine Kd.R_append_step k56 (w0 := w5) w5.heap.size (by simp [Region.wanted]) (.tmp 33) (.tmp 35) 35 56 (.agg #[.int .i64 0, .int .i64 0, .int .i64 0]) 24 rfl Try.underlying35 info56 rfl (by decide) (by omega) _ sq s [.int .i64 s.f0, .int .i64 s.f1, .int .i64 s.f2] (fun _ => True) (fun _ => False) rfl rfl (k56_mkM _ _ _ _) (fun _ h => h.elim) (fun _ _ => trivial) HR6.out HB6.out HB6.out.size ?aL ?_; (case aL => exact (by have := HSQ.out; omega)); intro v127 w7 ho hb hg hat; obtain ⟨A7, n7, c7, e7⟩ := R_slcs ho; subst e7; have HR7 := Aside0.mk ho; have HB7 := Aside0.mk hb; clear ho hb hg hat) | (refine Kd.R_append_rows_step k56 (w0 := w5) w5.heap.size (by simp [Region.wanted]) (.tmp 33) (.tmp 35) 35 56 (.agg #[.int .i64 0, .int .i64 0, .int .i64 0]) 24 rfl Try.underlying35 info56 rfl (by decide) (by omega) _ sq [s] _ _ _ (fun _ => True) (fun _ => False) rfl rfl HR6.out (show Kd.C k56 w6 _ 1 [s] from C_of_blkcs s (by first | exact hq6 | simpa using hq6)) (fun _ _ h => h) (fun _ h => h.elim) (fun _ _ => trivial) HB6.out HB6.out.size ?aL ?_; (case aL => exact (by have := HSQ.out; omega)); intro v127 w7 ho hb hg hat; obtain ⟨A7, n7, c7, e7⟩ := R_slcs ho; subst e7; have HR7 := Aside0.mk ho; have HB7 := Aside0.mk hb; clear ho hb hg hat) | (refine Kd.R_append_rows_step k56 (w0 := w5) w5.heap.size (by simp [Region.wanted]) (.tmp 29) (.tmp 32) 35 56 (.agg #[.int .i64 0, .int .i64 0, .int .i64 0]) 24 rfl Try.underlying35 info56 rfl (by decide) (by omega) (.slice (some ⟨w5.heap.size + 1, 0, none⟩) 0 0) [] sq _ _ _ (fun _ => True) (fun _ => False) rfl rfl ?aO ?aR (fun _ _ h => h) (fun _ h => h.elim) (fun _ _ => trivial) ?aB ?aS ?aL ?_; (case aO => exact (by have h := R_emptycs (w5.alloc (.cells #[.int .i64 s.f0, .int .i64 s.f1, .int .i64 s.f2] 56)) w5.heap.size (below_alloc (Below.refl _ _) _).size; rw [show (w5.alloc (.cells #[.int .i64 s.f0, .int .i64 s.f1, .int .i64 s.f2] 56)).heap.size = w5.heap.size + 1 from by simp] at h; first | exact Kd.R_drew h | exact h)); (case aR => exact (show Kd.C k56 _ A1 sq.length sq from by (with_reducible repeat (first | refine Kd.C_alloc ?_ _ | refine Kd.C_drew ?_)); exact HSC5.out)); (case aB => exact (by repeat (first | exact Below.refl _ _ | apply below_alloc | apply below_drew))); (case aS => exact (by simp; try omega)); (case aL => exact (by have := HSQ.out; simp; omega)); intro v118 w6 ho hb hg hat; obtain ⟨A6, n6, c6, e6⟩ := R_slcs ho; subst e6; rw [List.nil_append] at ho; have HR6 := Aside0.mk ho; have HB6 := Aside0.mk hb; obtain ⟨p60, p61, p62⟩ := HP6.out _ hb; have hq6 := blk_grown (w1 := w6) (blk_alloc (heap_alloc_new w5.drew (.cells #[.int .i64 s.f0, .int .i64 s.f1, .int .i64 s.f2] 56)) _) hg (by first | (simp [Value.ownBlock]; done) | (intro h_; injection h_ with h_; omega)); clear ho hb hg hat))
                all_goals
                  go_wp2_with fail
                  go_meet
                  case rel => exact ⟨HR7, HB7⟩
              case rest =>
                obtain ⟨HR7, HB7⟩ := hcut
                obtain ⟨A7, n7, c7, e7⟩ := R_slcs HR7.out
                subst e7
                have HD7 := Aside0.mk (Kd.C_below HDC5.out HB7.out)
                have hw3 : wrap64 (xi + 1) = ((i + 1 : Nat) : Int) := by
                  have h1 := HI.out
                  have h2 := HL.out
                  rw [w64 (by omega) (by omega)]; omega
                have HNX : Aside0 ((sq ++ [s] ++ dq).length = i + 1 ∧ srtF ltb ⟨0, 0, 0⟩ (sq ++ [s] ++ dq) (l0.drop (i + 1)) = srt l0) := ⟨by
                  have h1 := HV.out
                  refine ⟨by rw [← HINS.out, insG_lencs, h1.1], ?_⟩
                  rw [← HINS.out, ← h1.2, srtF_drop _ _ _ HI.out.2.2.2, HSV.out]⟩
                go_wp2_with (first | ((with_reducible refine gate_builtin (b := .append) (xs := #[.tmp 37, .tmp 40]) rfl ?_); at_builtin; refine Kd.R_append_rows k56 (w0 := w5) w5.heap.size rfl (.tmp 37) (.tmp 40) 35 56 (.agg #[(.int .i64 0), (.int .i64 0), (.int .i64 0)]) 24 rfl Try.underlying35 info56 rfl (by decide) (by omega) _ (sq ++ [s]) dq _ _ _ (fun _ => True) (fun _ => False) rfl rfl HR7.out HD7.out (fun _ _ h => h) (fun _ h => h.elim) (fun _ _ => trivial) HB7.out HB7.out.size (by have h1 := HSQ.out; have h2 := HDQ.out; rw [List.length_append, List.length_singleton]; omega) ?_; intro v41 w6 ho hb hg hat; have HO9 := Aside0.mk ho; have HB11 := Aside0.mk hb; clear ho hb hg hat))
                go_roundg (l0.length - (i + 1))
                case measure => have := HI.out; omega
                case rel => exact ⟨i + 1, _, _, by have := HI.out; omega, Nat.le_refl _, rfl, by first | rfl | rw [hw3], HNX, ⟨Kd.R_lower HO9.out HB10.out.size⟩, ⟨HB10.out.trans (HB11.out.mono HB10.out.size)⟩⟩
      · have b1 : decide (xi < (l0.length : Int)) = false := decide_eq_false (by omega)
        obtain rfl : i = l0.length := by omega
        have e2 := HV.out.2
        rw [List.drop_length] at e2
        have HE : Aside0 (out = r) := ⟨e2.trans HRES.out⟩
        clear e2
        go_wp2_with fail
        go_ret
        exact ⟨_, rfl, by rw [← HE.out]; exact HO.out, HB.out⟩
  · rw [if_neg hl] at h; cases h
end Go.Proofs.Ytdfcljfajiihdaa.P

namespace Go.Proofs.Ytdfcljfajiihdaa.P
open Go.RowKit Go.Proofs.YtdfcljfajiihdaaW.PrintWords Go.Proofs.YtdfcljfajiihdaaW.PrintLast Go.Proofs.YtdfcljfajiihdaaW.PrintMore
attribute [local go_sem] max2_int min2_int max_two min_two max_three min_three max_four min_four
set_option linter.unusedVariables false
set_option linter.unusedSimpArgs false
def spec_cuMake.f (k : Nat) (a0 : Int) (a1 : Int) (l2 : List (S56)) : Option (Int × Int × (List (S56)) × Bool) := if (l2.length : Int) > 30 then (some (0, 0, ([] : List (S56)), false)) else ((spec_cuSorted.f k l2).bind fun t102 => ((spec_cuGood.f k a0 a1 t102).bind fun t106 => (if t106 = true then (some (a0, a1, t102, true)) else (some (0, 0, ([] : List (S56)), false)))))
set_option maxHeartbeats 8000000 in
set_option maxRecDepth 100000 in
theorem spec_cuMake.calls (k : Nat) (a0 : Int) (a1 : Int) (A2 : Option Addr) (c2 : Nat) (l2 : List (S56)) (r1 : Int) (r2 : Int) (r3 : List (S56)) (r4 : Bool) (w : World) (hr2 : Kd.C k56 w A2 l2.length l2) (hc2 : l2.length ≤ c2) (h : spec_cuMake.f k a0 a1 l2 = some (r1, r2, r3, r4)) :
    Calls Try.prog 53 #[.int .i64 a0, .int .i64 a1, .slice A2 l2.length c2] w fun e w' => ∃ v2_ : Value, e = .returned (.tuple #[.agg #[.int .i64 r1, .int .i64 r2, v2_], .bool r4]) ∧ Kd.R k56 56 w' w.heap.size (fun _ => True) v2_ r3 ∧ Below w.heap.size w w' := by
  have hu37 := Try.underlying37
  have HR2 := Aside0.mk hr2
  have HC2 := Aside0.mk hc2
  clear hr2 hc2
  have HB := Aside0.mk (Below.refl w.heap.size w)
  have H : (if (l2.length : Int) > 30 then (some (0, 0, ([] : List (S56)), false)) else ((spec_cuSorted.f k l2).bind fun t102 => ((spec_cuGood.f k a0 a1 t102).bind fun t106 => (if t106 = true then (some (a0, a1, t102, true)) else (some (0, 0, ([] : List (S56)), false)))))) = some (r1, r2, r3, r4) := h
  clear h
  by_cases c4 : (l2.length : Int) > 30
  · rw [if_pos c4] at H
    have c4b0 : decide (30 < (l2.length : Int)) = true := decide_eq_true c4
    have c4b1 : decide (30 < l2.length) = true := decide_eq_true (by omega)
    clear c4
    simp only [Option.some.injEq, Prod.mk.injEq] at H
    obtain ⟨rfl, rfl, rfl, rfl⟩ := H
    go_enter Try.func53, Try.ntmps53
    go_wp2_with (first | ((with_reducible refine gate_dst (N := 6) rfl ?_); refine box_event ?hg (N := 6) ?hd (cs := #[.int .i64 0, .int .i64 0, .slice none 0 0]) (t := 37) ?hr ?_; (case hd => rfl); (case hg => rfl); (case hr => first | (go_simp; done) | (go_simp; rfl)); intro gb101 hg w5 hbox hb; have n0_ := Aside0.mk (below_step (by repeat (first | (with_reducible first | exact HB.out | apply below_alloc | apply pw_below_drewN | apply below_drew1) | exact HB.out)) hb); have n1_ := Aside0.mk (hbox); have n2_ := Aside0.mk ((by rw [hg]; exact (below_size (by repeat (first | (with_reducible first | exact HB.out | apply below_alloc | apply pw_below_drewN | apply below_drew1) | exact HB.out))) : w.heap.size ≤ gb101)); have n3_ := Aside0.mk ((by rw [hg]; exact (below_size (by repeat (first | (with_reducible first | exact HB.out | apply below_alloc | apply pw_below_drewN | apply below_drew1) | exact HB.out))) : w.heap.size ≤ gb101)); clear HB; have HB := n0_; have BK101 := n1_; have GW101 := n2_; have GE101 := n3_; clear n0_ n1_ n2_ n3_; clear hb hbox hg; have hcz6_0 : w5.cell? ⟨gb101, 0, none⟩ = some (.int .i64 0) := (blk_cell BK101.out 0).trans rfl; have hcz6_1 : w5.cell? ⟨gb101, 1, none⟩ = some (.int .i64 0) := (blk_cell BK101.out 1).trans rfl; have hcz6_2 : w5.cell? ⟨gb101, 2, none⟩ = some (.slice none 0 0) := (blk_cell BK101.out 2).trans rfl; have hfz6_0 := blk_frozen BK101.out 0; have hfz6_1 := blk_frozen BK101.out 1; have hfz6_2 := blk_frozen BK101.out 2))
    refine bodyPost_ret (results_ct rfl _ _ gb101 37 #[.int .i64 0, .int .i64 0, .slice none 0 0] (0, 0) _ rfl (by (with_reducible repeat (first | refine blk_drewN ?_ _ | refine blk_drew ?_ | refine blk_alloc ?_ _)); refine blk_put (cs := #[.int .i64 0, .int .i64 0, .slice none 0 0]) ?_ 2 _ rfl; (with_reducible repeat (first | refine blk_drewN ?_ _ | refine blk_drew ?_ | refine blk_alloc ?_ _)); refine blk_put (cs := #[.int .i64 0, .int .i64 0, .slice none 0 0]) ?_ 1 _ rfl; (with_reducible repeat (first | refine blk_drewN ?_ _ | refine blk_drew ?_ | refine blk_alloc ?_ _)); refine blk_put (cs := #[.int .i64 0, .int .i64 0, .slice none 0 0]) ?_ 0 _ rfl; (with_reducible repeat (first | refine blk_drewN ?_ _ | refine blk_drew ?_ | refine blk_alloc ?_ _)); exact BK101.out) Try.underlying37 rfl (by kernel_rfl)) rfl ?_
    exact ⟨_, by first | rfl | (simp [errW_none, errW_some] <;> rfl) | (simp [*, errW_none, errW_some] <;> rfl), by first | exact Kd.R_nil _ _ _ _ _ | exact Kd.N_nil _ _ _ _ _ | exact Kd.V_nil _ _ _ _ _ | exact Kd.Q_nil _ _ _ _ _ | exact Kd.S_nil _ _ _ _ _, by repeat (first | (with_reducible first | exact HB.out | apply below_alloc | apply pw_below_drewN | apply below_drew1 | refine below_set ?_ GE101.out) | exact HB.out)⟩
  · rw [if_neg c4] at H
    have c4b0 : decide (30 < (l2.length : Int)) = false := decide_eq_false c4
    have c4b1 : decide (30 < l2.length) = false := decide_eq_false (by omega)
    clear c4
    replace H := Option.bind_eq_some_iff.mp H
    obtain ⟨t102, A70, H⟩ := H
    replace H : ((spec_cuGood.f k a0 a1 t102).bind fun t106 => (if t106 = true then (some (a0, a1, t102, true)) else (some (0, 0, ([] : List (S56)), false)))) = some (r1, r2, r3, r4) := H
    have A7 := Aside0.mk A70
    clear A70
    replace H := Option.bind_eq_some_iff.mp H
    obtain ⟨t106, A80, H⟩ := H
    replace H : (if t106 = true then (some (a0, a1, t102, true)) else (some (0, 0, ([] : List (S56)), false))) = some (r1, r2, r3, r4) := H
    have A8 := Aside0.mk A80
    clear A80
    by_cases c9 : t106 = true
    · subst c9
      have H1 : (some (a0, a1, t102, true)) = some (r1, r2, r3, r4) := by rw [if_pos rfl] at H; exact H
      clear H
      have H := H1
      clear H1
      simp only [Option.some.injEq, Prod.mk.injEq] at H
      obtain ⟨rfl, rfl, rfl, rfl⟩ := H
      go_enter Try.func53, Try.ntmps53
      go_wp2_with (first | ((with_reducible refine gate_dst (N := 6) rfl ?_); refine box_event ?hg (N := 6) ?hd (cs := #[.int .i64 0, .int .i64 0, .slice none 0 0]) (t := 37) ?hr ?_; (case hd => rfl); (case hg => rfl); (case hr => first | (go_simp; done) | (go_simp; rfl)); intro gb101 hg w10 hbox hb; have n0_ := Aside0.mk (below_step (by repeat (first | (with_reducible first | exact HB.out | apply below_alloc | apply pw_below_drewN | apply below_drew1) | exact HB.out)) hb); have n1_ := Aside0.mk (hbox); have n2_ := Aside0.mk ((by rw [hg]; exact (below_size (by repeat (first | (with_reducible first | exact HB.out | apply below_alloc | apply pw_below_drewN | apply below_drew1) | exact HB.out))) : w.heap.size ≤ gb101)); have n3_ := Aside0.mk ((by rw [hg]; exact (below_size (by repeat (first | (with_reducible first | exact HB.out | apply below_alloc | apply pw_below_drewN | apply below_drew1) | exact HB.out))) : w.heap.size ≤ gb101)); clear HB; have HB := n0_; have BK101 := n1_; have GW101 := n2_; have GE101 := n3_; clear n0_ n1_ n2_ n3_; clear hb hbox hg) | ((with_reducible refine gate_callee (f := 83) rfl ?_); refine goesL_ (some 16) rfl rfl Try.func83 (by kernel_rfl) rfl #[.slice A2 l2.length c2] rfl (by (try simp only [List.map_toArray, List.map_cons, List.map_nil]); first | done | rfl | (simp only [List.length_drop, List.length_take]; rfl)) ?_; (with_reducible refine (spec_cuSorted.calls k _ _ l2 t102 _ ?side1 ?side2 A7.out).mono ?_); (case side1 => repeat (first | exact (Kd.C_below HR2.out HB.out) | (with_reducible refine Kd.C_alloc ?_ _) | (with_reducible refine Kd.C_drewN ?_ _) | (with_reducible refine Kd.C_drew ?_))); (case side2 => exact HC2.out); rintro e w11 ⟨v103, rfl, ho0, hb⟩; refine ⟨_, rfl, ?_⟩; have n0_ := Aside0.mk (Kd.R_lower ho0 (below_size (by repeat (first | (with_reducible first | exact HB.out | apply below_alloc | apply pw_below_drewN | apply below_drew1 | refine below_set ?_ GE101.out) | exact HB.out)))); have n1_ := Aside0.mk (blk_below (g := gb101) (o := .cells #[.int .i64 0, .int .i64 0, .slice none 0 0] 37 (0, 0)) (by (with_reducible repeat (first | refine blk_drewN ?_ _ | refine blk_drew ?_ | refine blk_alloc ?_ _)); exact BK101.out) hb); have n2_ := Aside0.mk (below_step (by repeat (first | (with_reducible first | exact HB.out | apply below_alloc | apply pw_below_drewN | apply below_drew1 | refine below_set ?_ GE101.out) | exact HB.out)) hb); clear BK101; clear HB; have HO104 := n0_; have BK101 := n1_; have HB := n2_; clear n0_ n1_ n2_; (try clear hb); (try clear hb2); (try clear hk); (try clear hi); (try clear ho0); obtain ⟨Ao12, co12, eo12⟩ := Kd.R_slice HO104.out; subst eo12) | ((with_reducible refine gate_dst (N := 8) rfl ?_); refine box_event ?hg (N := 8) ?hd (cs := #[.int .i64 0, .int .i64 0, .slice none 0 0]) (t := 37) ?hr ?_; (case hd => rfl); (case hg => rfl); (case hr => first | (go_simp; done) | (go_simp; rfl)); intro gb105 hg w13 hbox hb; have n0_ := Aside0.mk (Kd.R_below (by (with_reducible repeat (first | apply Kd.R_alloc | apply Kd.R_drewN | apply Kd.R_drew)); exact HO104.out) hb); have n1_ := Aside0.mk (blk_below (g := gb101) (o := .cells #[.int .i64 0, .int .i64 0, .slice none 0 0] 37 (0, 0)) (by (with_reducible repeat (first | refine blk_drewN ?_ _ | refine blk_drew ?_ | refine blk_alloc ?_ _)); exact BK101.out) hb); have n2_ := Aside0.mk (below_step (by repeat (first | (with_reducible first | exact HB.out | apply below_alloc | apply pw_below_drewN | apply below_drew1 | refine below_set ?_ GE101.out) | exact HB.out)) hb); have n3_ := Aside0.mk (hbox); have n4_ := Aside0.mk ((by rw [hg]; exact (below_size (by repeat (first | (with_reducible first | exact HB.out | apply below_alloc | apply pw_below_drewN | apply below_drew1 | refine below_set ?_ GE101.out) | exact HB.out))) : w.heap.size ≤ gb105)); have n5_ := Aside0.mk ((by rw [hg]; exact (below_size (by repeat (first | (with_reducible first | exact HB.out | apply below_alloc | apply pw_below_drewN | apply below_drew1 | refine below_set ?_ GE101.out) | exact HB.out))) : w.heap.size ≤ gb105)); have n6_ := Aside0.mk ((by rw [hg]; exact Nat.ne_of_lt (blk_lt (g := gb101) (o := .cells #[.int .i64 0, .int .i64 0, .slice none 0 0] 37 (0, 0)) (by (with_reducible repeat (first | refine blk_drewN ?_ _ | refine blk_drew ?_ | refine blk_alloc ?_ _)); exact BK101.out)) : gb101 ≠ gb105)); have n7_ := Aside0.mk ((by rw [hg]; exact Nat.ne_of_gt (blk_lt (g := gb101) (o := .cells #[.int .i64 0, .int .i64 0, .slice none 0 0] 37 (0, 0)) (by (with_reducible repeat (first | refine blk_drewN ?_ _ | refine blk_drew ?_ | refine blk_alloc ?_ _)); exact BK101.out)) : gb105 ≠ gb101)); clear HO104; clear BK101; clear HB; have HO104 := n0_; have BK101 := n1_; have HB := n2_; have BK105 := n3_; have GW105 := n4_; have GE105 := n5_; have NB101_105 := n6_; have NB105_101 := n7_; clear n0_ n1_ n2_ n3_ n4_ n5_ n6_ n7_; clear hb hbox hg; have hnb14 := NB105_101.out; have hnc14 := NB101_105.out; have hcz15_0 : w13.cell? ⟨gb105, 0, none⟩ = some (.int .i64 0) := (blk_cell BK105.out 0).trans rfl; have hcz15_1 : w13.cell? ⟨gb105, 1, none⟩ = some (.int .i64 0) := (blk_cell BK105.out 1).trans rfl; have hcz15_2 : w13.cell? ⟨gb105, 2, none⟩ = some (.slice none 0 0) := (blk_cell BK105.out 2).trans rfl; have hfz15_0 := blk_frozen BK105.out 0; have hfz15_1 := blk_frozen BK105.out 1; have hfz15_2 := blk_frozen BK105.out 2) | ((with_reducible refine gate_callee (f := 41) rfl ?_); refine goesL_ (some 19) rfl rfl Try.func41 (by kernel_rfl) rfl #[.agg #[.int .i64 a0, .int .i64 a1, .slice Ao12 t102.length co12]] rfl (by (try simp only [List.map_toArray, List.map_cons, List.map_nil]); first | done | rfl | (simp only [List.length_drop, List.length_take]; rfl)) ?_; (with_reducible refine (spec_cuGood.calls k a0 a1 _ _ t102 true _ ?side1 ?side2 A8.out).mono ?_); (case side1 => refine (Kd.R_reads' (e := 56) (base := w.heap.size) (ok := fun k_ => True) (n := t102.length) (c := co12) ?_).2.2; exact (by (with_reducible repeat (first | apply Kd.R_alloc | apply Kd.R_drewN | apply Kd.R_drew)); exact (Kd.R_mono (Kd.R_far (p := ⟨gb105, 2, none⟩) (Kd.R_far (p := ⟨gb105, 1, none⟩) (Kd.R_far (p := ⟨gb105, 0, none⟩) (Kd.R_types HO104.out BK105.out (by decide)) (fun _ hk => hk.2) (.int .i64 a0)) (fun _ hk => hk.2) (.int .i64 a1)) (fun _ hk => hk.2) (.slice Ao12 t102.length co12)) (fun _ h_ => h_.1)))); (case side2 => exact (Kd.R_reads' HO104.out).2.1); rintro e w16 ⟨rfl, hb⟩; refine ⟨_, rfl, ?_⟩; have n0_ := Aside0.mk (Kd.R_below (by (with_reducible repeat (first | apply Kd.R_alloc | apply Kd.R_drewN | apply Kd.R_drew)); exact (Kd.R_mono (Kd.R_far (p := ⟨gb105, 2, none⟩) (Kd.R_far (p := ⟨gb105, 1, none⟩) (Kd.R_far (p := ⟨gb105, 0, none⟩) (Kd.R_types HO104.out BK105.out (by decide)) (fun _ hk => hk.2) (.int .i64 a0)) (fun _ hk => hk.2) (.int .i64 a1)) (fun _ hk => hk.2) (.slice Ao12 t102.length co12)) (fun _ h_ => h_.1))) hb); have n1_ := Aside0.mk (blk_below (g := gb101) (o := .cells #[.int .i64 0, .int .i64 0, .slice none 0 0] 37 (0, 0)) (by (with_reducible repeat (first | refine blk_drewN ?_ _ | refine blk_drew ?_ | refine blk_alloc ?_ _)); refine blk_far ?_ NB101_105.out _; (with_reducible repeat (first | refine blk_drewN ?_ _ | refine blk_drew ?_ | refine blk_alloc ?_ _)); refine blk_far ?_ NB101_105.out _; (with_reducible repeat (first | refine blk_drewN ?_ _ | refine blk_drew ?_ | refine blk_alloc ?_ _)); refine blk_far ?_ NB101_105.out _; (with_reducible repeat (first | refine blk_drewN ?_ _ | refine blk_drew ?_ | refine blk_alloc ?_ _)); exact BK101.out) hb); have n2_ := Aside0.mk (blk_below (g := gb105) (o := .cells #[.int .i64 a0, .int .i64 a1, .slice Ao12 t102.length co12] 37 (0, 0)) (by (with_reducible repeat (first | refine blk_drewN ?_ _ | refine blk_drew ?_ | refine blk_alloc ?_ _)); refine blk_put (cs := #[.int .i64 a0, .int .i64 a1, .slice none 0 0]) ?_ 2 _ rfl; (with_reducible repeat (first | refine blk_drewN ?_ _ | refine blk_drew ?_ | refine blk_alloc ?_ _)); refine blk_put (cs := #[.int .i64 a0, .int .i64 0, .slice none 0 0]) ?_ 1 _ rfl; (with_reducible repeat (first | refine blk_drewN ?_ _ | refine blk_drew ?_ | refine blk_alloc ?_ _)); refine blk_put (cs := #[.int .i64 0, .int .i64 0, .slice none 0 0]) ?_ 0 _ rfl; (with_reducible repeat (first | refine blk_drewN ?_ _ | refine blk_drew ?_ | refine blk_alloc ?_ _)); exact BK105.out) hb); have n3_ := Aside0.mk (below_step (by repeat (first | (with_reducible first | exact HB.out | apply below_alloc | apply pw_below_drewN | apply below_drew1 | refine below_set ?_ GE101.out | refine below_set ?_ GE105.out) | exact HB.out)) hb); clear HO104; clear BK101; clear BK105; clear HB; have HO104 := n0_; have BK101 := n1_; have BK105 := n2_; have HB := n3_; clear n0_ n1_ n2_ n3_; (try clear hb); (try clear hb2); (try clear hk); (try clear hi); have hcz17_0 : w16.cell? ⟨gb105, 0, none⟩ = some (.int .i64 a0) := (blk_cell BK105.out 0).trans rfl; have hcz17_1 : w16.cell? ⟨gb105, 1, none⟩ = some (.int .i64 a1) := (blk_cell BK105.out 1).trans rfl; have hcz17_2 : w16.cell? ⟨gb105, 2, none⟩ = some (.slice Ao12 t102.length co12) := (blk_cell BK105.out 2).trans rfl; have hfz17_0 := blk_frozen BK105.out 0; have hfz17_1 := blk_frozen BK105.out 1; have hfz17_2 := blk_frozen BK105.out 2; have hcz18_0 : w16.cell? ⟨gb101, 0, none⟩ = some (.int .i64 0) := (blk_cell BK101.out 0).trans rfl; have hcz18_1 : w16.cell? ⟨gb101, 1, none⟩ = some (.int .i64 0) := (blk_cell BK101.out 1).trans rfl; have hcz18_2 : w16.cell? ⟨gb101, 2, none⟩ = some (.slice none 0 0) := (blk_cell BK101.out 2).trans rfl; have hfz18_0 := blk_frozen BK101.out 0; have hfz18_1 := blk_frozen BK101.out 1; have hfz18_2 := blk_frozen BK101.out 2))
      refine bodyPost_ret (results_ct rfl _ _ gb101 37 #[.int .i64 a0, .int .i64 a1, .slice Ao12 t102.length co12] (0, 0) _ rfl (by (with_reducible repeat (first | refine blk_drewN ?_ _ | refine blk_drew ?_ | refine blk_alloc ?_ _)); refine blk_put (cs := #[.int .i64 a0, .int .i64 a1, .slice none 0 0]) ?_ 2 _ rfl; (with_reducible repeat (first | refine blk_drewN ?_ _ | refine blk_drew ?_ | refine blk_alloc ?_ _)); refine blk_put (cs := #[.int .i64 a0, .int .i64 0, .slice none 0 0]) ?_ 1 _ rfl; (with_reducible repeat (first | refine blk_drewN ?_ _ | refine blk_drew ?_ | refine blk_alloc ?_ _)); refine blk_put (cs := #[.int .i64 0, .int .i64 0, .slice none 0 0]) ?_ 0 _ rfl; (with_reducible repeat (first | refine blk_drewN ?_ _ | refine blk_drew ?_ | refine blk_alloc ?_ _)); exact BK101.out) Try.underlying37 rfl (by kernel_rfl)) rfl ?_
      exact ⟨_, by first | rfl | (simp [errW_none, errW_some] <;> rfl) | (simp [*, errW_none, errW_some] <;> rfl), by (with_reducible repeat (first | apply Kd.R_alloc | apply Kd.R_drewN | apply Kd.R_drew)); exact Kd.R_mono (Kd.R_far (p := ⟨gb101, 2, none⟩) (Kd.R_far (p := ⟨gb101, 1, none⟩) (Kd.R_far (p := ⟨gb101, 0, none⟩) (Kd.R_types HO104.out BK101.out (by decide)) (fun _ hk => hk.2) (.int .i64 a0)) (fun _ hk => hk.2) (.int .i64 a1)) (fun _ hk => hk.2) (.slice Ao12 t102.length co12)) (fun _ hk => trivial), by repeat (first | (with_reducible first | exact HB.out | apply below_alloc | apply pw_below_drewN | apply below_drew1 | refine below_set ?_ GE101.out | refine below_set ?_ GE105.out) | exact HB.out)⟩
    · replace c9 := Bool.eq_false_iff.mpr c9
      subst c9
      have H1 : (some (0, 0, ([] : List (S56)), false)) = some (r1, r2, r3, r4) := by rw [if_neg (show ¬ (false = true) by decide)] at H; exact H
      clear H
      have H := H1
      clear H1
      simp only [Option.some.injEq, Prod.mk.injEq] at H
      obtain ⟨rfl, rfl, rfl, rfl⟩ := H
      go_enter Try.func53, Try.ntmps53
      go_wp2_with (first | ((with_reducible refine gate_dst (N := 6) rfl ?_); refine box_event ?hg (N := 6) ?hd (cs := #[.int .i64 0, .int .i64 0, .slice none 0 0]) (t := 37) ?hr ?_; (case hd => rfl); (case hg => rfl); (case hr => first | (go_simp; done) | (go_simp; rfl)); intro gb101 hg w19 hbox hb; have n0_ := Aside0.mk (below_step (by repeat (first | (with_reducible first | exact HB.out | apply below_alloc | apply pw_below_drewN | apply below_drew1) | exact HB.out)) hb); have n1_ := Aside0.mk (hbox); have n2_ := Aside0.mk ((by rw [hg]; exact (below_size (by repeat (first | (with_reducible first | exact HB.out | apply below_alloc | apply pw_below_drewN | apply below_drew1) | exact HB.out))) : w.heap.size ≤ gb101)); have n3_ := Aside0.mk ((by rw [hg]; exact (below_size (by repeat (first | (with_reducible first | exact HB.out | apply below_alloc | apply pw_below_drewN | apply below_drew1) | exact HB.out))) : w.heap.size ≤ gb101)); clear HB; have HB := n0_; have BK101 := n1_; have GW101 := n2_; have GE101 := n3_; clear n0_ n1_ n2_ n3_; clear hb hbox hg) | ((with_reducible refine gate_callee (f := 83) rfl ?_); refine goesL_ (some 16) rfl rfl Try.func83 (by kernel_rfl) rfl #[.slice A2 l2.length c2] rfl (by (try simp only [List.map_toArray, List.map_cons, List.map_nil]); first | done | rfl | (simp only [List.length_drop, List.length_take]; rfl)) ?_; (with_reducible refine (spec_cuSorted.calls k _ _ l2 t102 _ ?side1 ?side2 A7.out).mono ?_); (case side1 => repeat (first | exact (Kd.C_below HR2.out HB.out) | (with_reducible refine Kd.C_alloc ?_ _) | (with_reducible refine Kd.C_drewN ?_ _) | (with_reducible refine Kd.C_drew ?_))); (case side2 => exact HC2.out); rintro e w20 ⟨v103, rfl, ho0, hb⟩; refine ⟨_, rfl, ?_⟩; have n0_ := Aside0.mk (Kd.R_lower ho0 (below_size (by repeat (first | (with_reducible first | exact HB.out | apply below_alloc | apply pw_below_drewN | apply below_drew1 | refine below_set ?_ GE101.out) | exact HB.out)))); have n1_ := Aside0.mk (blk_below (g := gb101) (o := .cells #[.int .i64 0, .int .i64 0, .slice none 0 0] 37 (0, 0)) (by (with_reducible repeat (first | refine blk_drewN ?_ _ | refine blk_drew ?_ | refine blk_alloc ?_ _)); exact BK101.out) hb); have n2_ := Aside0.mk (below_step (by repeat (first | (with_reducible first | exact HB.out | apply below_alloc | apply pw_below_drewN | apply below_drew1 | refine below_set ?_ GE101.out) | exact HB.out)) hb); clear BK101; clear HB; have HO104 := n0_; have BK101 := n1_; have HB := n2_; clear n0_ n1_ n2_; (try clear hb); (try clear hb2); (try clear hk); (try clear hi); (try clear ho0); obtain ⟨Ao21, co21, eo21⟩ := Kd.R_slice HO104.out; subst eo21) | ((with_reducible refine gate_dst (N := 8) rfl ?_); refine box_event ?hg (N := 8) ?hd (cs := #[.int .i64 0, .int .i64 0, .slice none 0 0]) (t := 37) ?hr ?_; (case hd => rfl); (case hg => rfl); (case hr => first | (go_simp; done) | (go_simp; rfl)); intro gb105 hg w22 hbox hb; have n0_ := Aside0.mk (Kd.R_below (by (with_reducible repeat (first | apply Kd.R_alloc | apply Kd.R_drewN | apply Kd.R_drew)); exact HO104.out) hb); have n1_ := Aside0.mk (blk_below (g := gb101) (o := .cells #[.int .i64 0, .int .i64 0, .slice none 0 0] 37 (0, 0)) (by (with_reducible repeat (first | refine blk_drewN ?_ _ | refine blk_drew ?_ | refine blk_alloc ?_ _)); exact BK101.out) hb); have n2_ := Aside0.mk (below_step (by repeat (first | (with_reducible first | exact HB.out | apply below_alloc | apply pw_below_drewN | apply below_drew1 | refine below_set ?_ GE101.out) | exact HB.out)) hb); have n3_ := Aside0.mk (hbox); have n4_ := Aside0.mk ((by rw [hg]; exact (below_size (by repeat (first | (with_reducible first | exact HB.out | apply below_alloc | apply pw_below_drewN | apply below_drew1 | refine below_set ?_ GE101.out) | exact HB.out))) : w.heap.size ≤ gb105)); have n5_ := Aside0.mk ((by rw [hg]; exact (below_size (by repeat (first | (with_reducible first | exact HB.out | apply below_alloc | apply pw_below_drewN | apply below_drew1 | refine below_set ?_ GE101.out) | exact HB.out))) : w.heap.size ≤ gb105)); have n6_ := Aside0.mk ((by rw [hg]; exact Nat.ne_of_lt (blk_lt (g := gb101) (o := .cells #[.int .i64 0, .int .i64 0, .slice none 0 0] 37 (0, 0)) (by (with_reducible repeat (first | refine blk_drewN ?_ _ | refine blk_drew ?_ | refine blk_alloc ?_ _)); exact BK101.out)) : gb101 ≠ gb105)); have n7_ := Aside0.mk ((by rw [hg]; exact Nat.ne_of_gt (blk_lt (g := gb101) (o := .cells #[.int .i64 0, .int .i64 0, .slice none 0 0] 37 (0, 0)) (by (with_reducible repeat (first | refine blk_drewN ?_ _ | refine blk_drew ?_ | refine blk_alloc ?_ _)); exact BK101.out)) : gb105 ≠ gb101)); clear HO104; clear BK101; clear HB; have HO104 := n0_; have BK101 := n1_; have HB := n2_; have BK105 := n3_; have GW105 := n4_; have GE105 := n5_; have NB101_105 := n6_; have NB105_101 := n7_; clear n0_ n1_ n2_ n3_ n4_ n5_ n6_ n7_; clear hb hbox hg; have hnb23 := NB105_101.out; have hnc23 := NB101_105.out; have hcz24_0 : w22.cell? ⟨gb105, 0, none⟩ = some (.int .i64 0) := (blk_cell BK105.out 0).trans rfl; have hcz24_1 : w22.cell? ⟨gb105, 1, none⟩ = some (.int .i64 0) := (blk_cell BK105.out 1).trans rfl; have hcz24_2 : w22.cell? ⟨gb105, 2, none⟩ = some (.slice none 0 0) := (blk_cell BK105.out 2).trans rfl; have hfz24_0 := blk_frozen BK105.out 0; have hfz24_1 := blk_frozen BK105.out 1; have hfz24_2 := blk_frozen BK105.out 2) | ((with_reducible refine gate_callee (f := 41) rfl ?_); refine goesL_ (some 19) rfl rfl Try.func41 (by kernel_rfl) rfl #[.agg #[.int .i64 a0, .int .i64 a1, .slice Ao21 t102.length co21]] rfl (by (try simp only [List.map_toArray, List.map_cons, List.map_nil]); first | done | rfl | (simp only [List.length_drop, List.length_take]; rfl)) ?_; (with_reducible refine (spec_cuGood.calls k a0 a1 _ _ t102 false _ ?side1 ?side2 A8.out).mono ?_); (case side1 => refine (Kd.R_reads' (e := 56) (base := w.heap.size) (ok := fun k_ => True) (n := t102.length) (c := co21) ?_).2.2; exact (by (with_reducible repeat (first | apply Kd.R_alloc | apply Kd.R_drewN | apply Kd.R_drew)); exact (Kd.R_mono (Kd.R_far (p := ⟨gb105, 2, none⟩) (Kd.R_far (p := ⟨gb105, 1, none⟩) (Kd.R_far (p := ⟨gb105, 0, none⟩) (Kd.R_types HO104.out BK105.out (by decide)) (fun _ hk => hk.2) (.int .i64 a0)) (fun _ hk => hk.2) (.int .i64 a1)) (fun _ hk => hk.2) (.slice Ao21 t102.length co21)) (fun _ h_ => h_.1)))); (case side2 => exact (Kd.R_reads' HO104.out).2.1); rintro e w25 ⟨rfl, hb⟩; refine ⟨_, rfl, ?_⟩; have n0_ := Aside0.mk (Kd.R_below (by (with_reducible repeat (first | apply Kd.R_alloc | apply Kd.R_drewN | apply Kd.R_drew)); exact (Kd.R_mono (Kd.R_far (p := ⟨gb105, 2, none⟩) (Kd.R_far (p := ⟨gb105, 1, none⟩) (Kd.R_far (p := ⟨gb105, 0, none⟩) (Kd.R_types HO104.out BK105.out (by decide)) (fun _ hk => hk.2) (.int .i64 a0)) (fun _ hk => hk.2) (.int .i64 a1)) (fun _ hk => hk.2) (.slice Ao21 t102.length co21)) (fun _ h_ => h_.1))) hb); have n1_ := Aside0.mk (blk_below (g := gb101) (o := .cells #[.int .i64 0, .int .i64 0, .slice none 0 0] 37 (0, 0)) (by (with_reducible repeat (first | refine blk_drewN ?_ _ | refine blk_drew ?_ | refine blk_alloc ?_ _)); refine blk_far ?_ NB101_105.out _; (with_reducible repeat (first | refine blk_drewN ?_ _ | refine blk_drew ?_ | refine blk_alloc ?_ _)); refine blk_far ?_ NB101_105.out _; (with_reducible repeat (first | refine blk_drewN ?_ _ | refine blk_drew ?_ | refine blk_alloc ?_ _)); refine blk_far ?_ NB101_105.out _; (with_reducible repeat (first | refine blk_drewN ?_ _ | refine blk_drew ?_ | refine blk_alloc ?_ _)); exact BK101.out) hb); have n2_ := Aside0.mk (blk_below (g := gb105) (o := .cells #[.int .i64 a0, .int .i64 a1, .slice Ao21 t102.length co21] 37 (0, 0)) (by (with_reducible repeat (first | refine blk_drewN ?_ _ | refine blk_drew ?_ | refine blk_alloc ?_ _)); refine blk_put (cs := #[.int .i64 a0, .int .i64 a1, .slice none 0 0]) ?_ 2 _ rfl; (with_reducible repeat (first | refine blk_drewN ?_ _ | refine blk_drew ?_ | refine blk_alloc ?_ _)); refine blk_put (cs := #[.int .i64 a0, .int .i64 0, .slice none 0 0]) ?_ 1 _ rfl; (with_reducible repeat (first | refine blk_drewN ?_ _ | refine blk_drew ?_ | refine blk_alloc ?_ _)); refine blk_put (cs := #[.int .i64 0, .int .i64 0, .slice none 0 0]) ?_ 0 _ rfl; (with_reducible repeat (first | refine blk_drewN ?_ _ | refine blk_drew ?_ | refine blk_alloc ?_ _)); exact BK105.out) hb); have n3_ := Aside0.mk (below_step (by repeat (first | (with_reducible first | exact HB.out | apply below_alloc | apply pw_below_drewN | apply below_drew1 | refine below_set ?_ GE101.out | refine below_set ?_ GE105.out) | exact HB.out)) hb); clear HO104; clear BK101; clear BK105; clear HB; have HO104 := n0_; have BK101 := n1_; have BK105 := n2_; have HB := n3_; clear n0_ n1_ n2_ n3_; (try clear hb); (try clear hb2); (try clear hk); (try clear hi); have hcz26_0 : w25.cell? ⟨gb101, 0, none⟩ = some (.int .i64 0) := (blk_cell BK101.out 0).trans rfl; have hcz26_1 : w25.cell? ⟨gb101, 1, none⟩ = some (.int .i64 0) := (blk_cell BK101.out 1).trans rfl; have hcz26_2 : w25.cell? ⟨gb101, 2, none⟩ = some (.slice none 0 0) := (blk_cell BK101.out 2).trans rfl; have hfz26_0 := blk_frozen BK101.out 0; have hfz26_1 := blk_frozen BK101.out 1; have hfz26_2 := blk_frozen BK101.out 2))
      refine bodyPost_ret (results_ct rfl _ _ gb101 37 #[.int .i64 0, .int .i64 0, .slice none 0 0] (0, 0) _ rfl (by (with_reducible repeat (first | refine blk_drewN ?_ _ | refine blk_drew ?_ | refine blk_alloc ?_ _)); refine blk_put (cs := #[.int .i64 0, .int .i64 0, .slice none 0 0]) ?_ 2 _ rfl; (with_reducible repeat (first | refine blk_drewN ?_ _ | refine blk_drew ?_ | refine blk_alloc ?_ _)); refine blk_put (cs := #[.int .i64 0, .int .i64 0, .slice none 0 0]) ?_ 1 _ rfl; (with_reducible repeat (first | refine blk_drewN ?_ _ | refine blk_drew ?_ | refine blk_alloc ?_ _)); refine blk_put (cs := #[.int .i64 0, .int .i64 0, .slice none 0 0]) ?_ 0 _ rfl; (with_reducible repeat (first | refine blk_drewN ?_ _ | refine blk_drew ?_ | refine blk_alloc ?_ _)); exact BK101.out) Try.underlying37 rfl (by kernel_rfl)) rfl ?_
      exact ⟨_, by first | rfl | (simp [errW_none, errW_some] <;> rfl) | (simp [*, errW_none, errW_some] <;> rfl), by first | exact Kd.R_nil _ _ _ _ _ | exact Kd.N_nil _ _ _ _ _ | exact Kd.V_nil _ _ _ _ _ | exact Kd.Q_nil _ _ _ _ _ | exact Kd.S_nil _ _ _ _ _, by repeat (first | (with_reducible first | exact HB.out | apply below_alloc | apply pw_below_drewN | apply below_drew1 | refine below_set ?_ GE101.out | refine below_set ?_ GE105.out) | exact HB.out)⟩
end Go.Proofs.Ytdfcljfajiihdaa.P

namespace Go.Proofs.Ytdfcljfajiihdaa.P
open Go.RowKit Go.Proofs.YtdfcljfajiihdaaW.PrintWords Go.Proofs.YtdfcljfajiihdaaW.PrintLast Go.Proofs.YtdfcljfajiihdaaW.PrintMore
attribute [local go_sem] max2_int min2_int max_two min_two max_three min_three max_four min_four
set_option linter.unusedVariables false
set_option linter.unusedSimpArgs false
def spec_feSize.f (a0 : Int) (a1 : Int) (a2 : Int) : Option (Bool) := (spec_l1In.f a0 1 a2).bind fun t101 => (if t101 = true then ((spec_l1In.f a1 1 a2).bind fun t102 => (some t102)) else (some false))
set_option maxHeartbeats 8000000 in
set_option maxRecDepth 100000 in
theorem spec_feSize.calls (a0 : Int) (a1 : Int) (a2 : Int) (r : Bool) (w : World) (h : spec_feSize.f a0 a1 a2 = some r) :
    Calls Try.prog 65 #[.int .i64 a0, .int .i64 a1, .int .i64 a2] w fun e w' => e = .returned (.bool r) ∧ Drawn0 w w' := by
  have H : ((spec_l1In.f a0 1 a2).bind fun t101 => (if t101 = true then ((spec_l1In.f a1 1 a2).bind fun t102 => (some t102)) else (some false))) = some r := h
  clear h
  replace H := Option.bind_eq_some_iff.mp H
  obtain ⟨t101, A40, H⟩ := H
  replace H : (if t101 = true then ((spec_l1In.f a1 1 a2).bind fun t102 => (some t102)) else (some false)) = some r := H
  have A4 := Aside0.mk A40
  clear A40
  by_cases c5 : t101 = true
  · subst c5
    have H1 : ((spec_l1In.f a1 1 a2).bind fun t102 => (some t102)) = some r := by rw [if_pos rfl] at H; exact H
    clear H
    have H := H1
    clear H1
    replace H := Option.bind_eq_some_iff.mp H
    obtain ⟨t102, A60, H⟩ := H
    replace H : (some t102) = some r := H
    have A6 := Aside0.mk A60
    clear A60
    obtain rfl := Option.some.inj H
    go_enter Try.func65, Try.ntmps65
    go_wp2_with (first | ((with_reducible refine gate_callee (f := 30) rfl ?_); refine goesL_ (some 9) rfl rfl Try.func30 (by kernel_rfl) rfl #[.int .i64 a0, .int .i64 1, .int .i64 a2] rfl (by (try simp only [List.map_toArray, List.map_cons, List.map_nil]); first | done | rfl | (simp only [List.length_drop, List.length_take]; rfl)) ?_; (with_reducible refine (spec_l1In.calls a0 1 a2 true _ A4.out).mono ?_); rintro e w' ⟨rfl, ⟨nd, rfl⟩⟩; refine ⟨_, rfl, ?_⟩) | (go_at_call 30; (with_reducible refine (spec_l1In.calls a1 1 a2 t102 _ A6.out).mono ?_); rintro e w' ⟨rfl, ⟨nd, rfl⟩⟩))
    go_ret
    exact ⟨by first | rfl | (simp; done) | (simp [*]; done), by repeat (first | exact Drawn0.refl _ | apply Drawn0.step)⟩
  · replace c5 := Bool.eq_false_iff.mpr c5
    subst c5
    have H1 : (some false) = some r := by rw [if_neg (show ¬ (false = true) by decide)] at H; exact H
    clear H
    have H := H1
    clear H1
    obtain rfl := Option.some.inj H
    go_enter Try.func65, Try.ntmps65
    go_wp2_with (first | ((with_reducible refine gate_callee (f := 30) rfl ?_); refine goesL_ (some 9) rfl rfl Try.func30 (by kernel_rfl) rfl #[.int .i64 a0, .int .i64 1, .int .i64 a2] rfl (by (try simp only [List.map_toArray, List.map_cons, List.map_nil]); first | done | rfl | (simp only [List.length_drop, List.length_take]; rfl)) ?_; (with_reducible refine (spec_l1In.calls a0 1 a2 false _ A4.out).mono ?_); rintro e w' ⟨rfl, ⟨nd, rfl⟩⟩; refine ⟨_, rfl, ?_⟩))
    go_ret
    exact ⟨by first | rfl | (simp; done) | (simp [*]; done), by repeat (first | exact Drawn0.refl _ | apply Drawn0.step)⟩
end Go.Proofs.Ytdfcljfajiihdaa.P
