import Derived.Test.YtnfiejagokefcaaMFnExactIsByLineswWords
import Derived.Test.YtnfiejagokefcaaMFnExactIsByLineswLast
import Derived.Test.YtnfiejagokefcaaMFnExactIsByLineswTab
import Derived.Test.YtnfiejagokefcaaMFnExactIsByLineswApart
import Derived.Test.YtnfiejagokefcaaMFnExactIsByLineswFoot
import Derived.Test.YtnfiejagokefcaaMFnExactIsByLineswKept
import Derived.Test.YtnfiejagokefcaaMFnExactIsByLineswShare
import Derived.Test.YtnfiejagokefcaaMFnExactIsByLineswN
import Derived.Test.YtnfiejagokefcaaMFnExactIsByLineswFootNe
import Derived.Test.YtnfiejagokefcaaMFnExactIsByLineswRepsOne
import Derived.Test.YtnfiejagokefcaaMFnExactIsByLineswGuard
import Derived.Test.YtnfiejagokefcaaMFnExactIsByLineswMore
import Derived.Test.YtnfiejagokefcaaMFnExactIsByLinesx0
import Derived.Test.YtnfiejagokefcaaMFnExactIsByLinesx1
import Derived.Test.YtnfiejagokefcaaMFnExactIsByLinesx2
import Derived.Test.YtnfiejagokefcaaMFnExactIsByLinesx3
import Derived.Shelf.Abstract
import Derived.Below
import Derived.Deep.QuietTactic
import Derived.Deep.Draws
import Derived.Sort.Lot0
import Derived.Laws.IdiomCopy
import Derived.Sort.LotA
import Derived.Sort.WalkA
import Derived.Shelf.SlicesQ.Load
import Derived.Shelf.SlSortCmp.WholeK
import Derived.WalkKit
import Derived.Shelf.SlGeneric
import Derived.Ground.SlsfProg
import Derived.Test.YtnfiejagokefcaaProg
import Derived.Deep.RegionLaw
namespace Go.Proofs.Ytnfiejagokefcaa.P
open Go.RowKit Go.Proofs.YtnfiejagokefcaaW.PrintWords Go.Proofs.YtnfiejagokefcaaW.PrintLast Go.Proofs.YtnfiejagokefcaaW.PrintMore
attribute [local go_sem] max2_int min2_int max_two min_two max_three min_three max_four min_four
set_option linter.unusedVariables false
set_option linter.unusedSimpArgs false
open Go.Proofs.Ytnfiejagokefcaa.T in
set_option maxHeartbeats 1000000 in
theorem slices_IndexFunc_sq (l : List S61) (A : Option Addr) (c : Nat) (g : Nat) (lb : Array Value) (p : S61 → Bool) (w : World) (hr : Kd.C k61 w A l.length l) (hlc : l.length ≤ c)
    (eg : ∀ args w, (callFunc g args).run Try.prog w = .ok (.enter g args) w)
    (hp : ∀ W x, Below w.heap.size w W → Calls Try.prog g (#[.agg #[.int .i64 x.f0, .int .i64 x.f1, .int .i64 x.f2]] ++ lb) W fun e w' => e = .returned (.bool (p x)) ∧ Below w.heap.size w w') :
    Calls Try.prog 70 #[.slice A l.length c, .func (.func g) #[] lb] w fun e w' => e = .returned (.int .i64 (idxF p l 0)) ∧ Below w.heap.size w w' := by
  have hlen := hr.2.1
  have HR := Aside0.mk hr
  clear hr
  go_enter Try.func70, Try.ntmps70
  go_wp2
  go_loopg [5, 8] l.length (fun gg v5 v8 wc => ∃ (i : Int), 0 ≤ i ∧ i ≤ (l.length : Int) ∧ (l.length : Int) - i ≤ (gg : Int) ∧ v8 = .int .i64 i ∧ Aside0 (Below w.heap.size w wc) ∧ Aside0 (∀ j y, (j : Nat) < i.toNat → l[j]? = some y → p y = false))
  case atStart => exact ⟨0, by omega, by omega, by omega, rfl, ⟨Below.refl _ _⟩, ⟨fun j y hj => by simp at hj⟩⟩
  case round =>
    obtain ⟨i, h0, h1, hg, rfl, HB, HN⟩ := hrel
    by_cases c4 : i < (l.length : Int)
    · obtain ⟨ad, e1, hx0, hx1, hx2⟩ := at_T61 (Kd.C_below HR.out HB.out) i h0 c4
      cases e1
      have hget : l[i.toNat]? = some (rd_T61 l i) := by
        have : i.toNat < l.length := by omega
        simp [rd_T61, this]
      have HG := Aside0.mk hget
      clear hget
      have HP := Aside0.mk (hp _ (rd_T61 l i) HB.out)
      clear hp
      generalize hxx : rd_T61 l i = x at HG HP hx0 hx1 hx2
      clear hxx
      have c4b : decide (i < (l.length : Int)) = true := decide_eq_true c4
      have h0' := eq_true h0
      cases hb : p x with
      | true =>
        rw [hb] at HP
        go_wp2_with (go_at_fn g; refine HP.out.mono ?_; rintro e w' ⟨rfl, hb'⟩)
        go_ret
        refine ⟨?_, hb'⟩
        rw [idxF_hit p l i.toNat x HG.out hb (fun j y hj hy => HN.out j y hj hy) 0, show ((0 + i.toNat : Nat) : Int) = i by omega]
        rfl
      | false =>
        rw [hb] at HP
        go_wp2_with (go_at_fn g; refine HP.out.mono ?_; rintro e w' ⟨rfl, hb'⟩)
        go_roundg (l.length - (i.toNat + 1))
        case measure => omega
        case rel =>
          refine ⟨i + 1, by omega, by omega, by omega, rfl, ⟨hb'⟩, ⟨fun j y hj hy => ?_⟩⟩
          by_cases e : j = i.toNat
          · subst e
            have := HG.out
            rw [this] at hy; cases hy; exact hb
          · exact HN.out j y (by omega) hy
    · have c4b : decide (i < (l.length : Int)) = false := decide_eq_false c4
      go_wp2
      go_ret
      refine ⟨?_, HB.out⟩
      rw [idxF_miss p l (fun j y hy => HN.out j y (by have := (List.getElem?_eq_some_iff.1 hy).1; omega) hy) 0]
      rfl
end Go.Proofs.Ytnfiejagokefcaa.P

namespace Go.Proofs.Ytnfiejagokefcaa.P
open Go.RowKit Go.Proofs.YtnfiejagokefcaaW.PrintWords Go.Proofs.YtnfiejagokefcaaW.PrintLast Go.Proofs.YtnfiejagokefcaaW.PrintMore
attribute [local go_sem] max2_int min2_int max_two min_two max_three min_three max_four min_four
set_option linter.unusedVariables false
set_option linter.unusedSimpArgs false
open Go.Proofs.Ytnfiejagokefcaa.T in
theorem slices_ContainsFunc_sq (l : List S61) (A : Option Addr) (c : Nat) (g : Nat) (lb : Array Value) (p : S61 → Bool) (w : World) (hr : Kd.C k61 w A l.length l) (hlc : l.length ≤ c)
    (eg : ∀ args w, (callFunc g args).run Try.prog w = .ok (.enter g args) w)
    (hp : ∀ W x, Below w.heap.size w W → Calls Try.prog g (#[.agg #[.int .i64 x.f0, .int .i64 x.f1, .int .i64 x.f2]] ++ lb) W fun e w' => e = .returned (.bool (p x)) ∧ Below w.heap.size w w') :
    Calls Try.prog 54 #[.slice A l.length c, .func (.func g) #[] lb] w fun e w' => e = .returned (.bool (l.any p)) ∧ Below w.heap.size w w' := by
  rw [← idxF_any p l 0]
  have HC := Aside0.mk (slices_IndexFunc_sq l A c g lb p w hr hlc eg hp)
  clear hr hp
  go_enter Try.func54, Try.ntmps54
  go_wp2_with (go_at_call 70; refine HC.out.mono ?_; rintro e w' ⟨rfl, hb'⟩)
  go_ret
  exact ⟨rfl, hb'⟩
end Go.Proofs.Ytnfiejagokefcaa.P

namespace Go.Proofs.Ytnfiejagokefcaa.P
open Go.RowKit Go.Proofs.YtnfiejagokefcaaW.PrintWords Go.Proofs.YtnfiejagokefcaaW.PrintLast Go.Proofs.YtnfiejagokefcaaW.PrintMore
attribute [local go_sem] max2_int min2_int max_two min_two max_three min_three max_four min_four
set_option linter.unusedVariables false
set_option linter.unusedSimpArgs false
def impl_overlap.f (a0_0 : Int) (a0_1 : Int) (a0_2 : Int) (a1_0 : Int) (a1_1 : Int) (a1_2 : Int) : Option (Bool) := if a0_0 < (wrap64 (a1_0 + a1_2)) then (if a1_0 < (wrap64 (a0_0 + a0_2)) then (if a0_1 < (wrap64 (a1_1 + a1_2)) then (some (decide (a1_1 < (wrap64 (a0_1 + a0_2))))) else (some false)) else (some false)) else (some false)
set_option maxHeartbeats 8000000 in
set_option maxRecDepth 100000 in
theorem impl_overlap.calls (a0_0 : Int) (a0_1 : Int) (a0_2 : Int) (a1_0 : Int) (a1_1 : Int) (a1_2 : Int) (r : Bool) (w : World) (h : impl_overlap.f a0_0 a0_1 a0_2 a1_0 a1_1 a1_2 = some r) :
    Calls Try.prog 56 #[.agg #[.int .i64 a0_0, .int .i64 a0_1, .int .i64 a0_2], .agg #[.int .i64 a1_0, .int .i64 a1_1, .int .i64 a1_2]] w fun e w' => e = .returned (.bool r) ∧ Below w.heap.size w w' := by
  have hu61 := Try.underlying61
  have HB := Aside0.mk (Below.refl w.heap.size w)
  have H : (if a0_0 < (wrap64 (a1_0 + a1_2)) then (if a1_0 < (wrap64 (a0_0 + a0_2)) then (if a0_1 < (wrap64 (a1_1 + a1_2)) then (some (decide (a1_1 < (wrap64 (a0_1 + a0_2))))) else (some false)) else (some false)) else (some false)) = some r := h
  clear h
  by_cases c3 : a0_0 < (wrap64 (a1_0 + a1_2))
  · rw [if_pos c3] at H
    have c3b0 : decide (a0_0 < (wrap64 (a1_0 + a1_2))) = true := decide_eq_true c3
    clear c3
    by_cases c4 : a1_0 < (wrap64 (a0_0 + a0_2))
    · rw [if_pos c4] at H
      have c4b0 : decide (a1_0 < (wrap64 (a0_0 + a0_2))) = true := decide_eq_true c4
      clear c4
      by_cases c5 : a0_1 < (wrap64 (a1_1 + a1_2))
      · rw [if_pos c5] at H
        have c5b0 : decide (a0_1 < (wrap64 (a1_1 + a1_2))) = true := decide_eq_true c5
        clear c5
        obtain rfl := Option.some.inj H
        go_enter Try.func56, Try.ntmps56
        go_wp2_with (first | ((with_reducible refine gate_dst (N := 2) rfl ?_); refine box_event ?hg (N := 2) ?hd (cs := #[.int .i64 a0_0, .int .i64 a0_1, .int .i64 a0_2]) (t := 61) ?hr ?_; (case hd => rfl); (case hg => rfl); (case hr => first | (go_simp; done) | (go_simp; rfl)); intro gb101 hg w6 hbox hb; have n0_ := Aside0.mk (below_step (by repeat (first | (with_reducible first | exact HB.out | apply below_alloc | apply pw_below_drewN | apply below_drew1) | exact HB.out)) hb); have n1_ := Aside0.mk (hbox); have n2_ := Aside0.mk ((by rw [hg]; exact (below_size (by repeat (first | (with_reducible first | exact HB.out | apply below_alloc | apply pw_below_drewN | apply below_drew1) | exact HB.out))) : w.heap.size ≤ gb101)); have n3_ := Aside0.mk ((by rw [hg]; exact (below_size (by repeat (first | (with_reducible first | exact HB.out | apply below_alloc | apply pw_below_drewN | apply below_drew1) | exact HB.out))) : w.heap.size ≤ gb101)); clear HB; have HB := n0_; have BK101 := n1_; have GW101 := n2_; have GE101 := n3_; clear n0_ n1_ n2_ n3_; clear hb hbox hg) | ((with_reducible refine gate_dst (N := 3) rfl ?_); refine box_event ?hg (N := 3) ?hd (cs := #[.int .i64 a1_0, .int .i64 a1_1, .int .i64 a1_2]) (t := 61) ?hr ?_; (case hd => rfl); (case hg => rfl); (case hr => first | (go_simp; done) | (go_simp; rfl)); intro gb102 hg w7 hbox hb; have n0_ := Aside0.mk (blk_below (g := gb101) (o := .cells #[.int .i64 a0_0, .int .i64 a0_1, .int .i64 a0_2] 61 (0, 0)) (by (with_reducible repeat (first | refine blk_drewN ?_ _ | refine blk_drew ?_ | refine blk_alloc ?_ _)); exact BK101.out) hb); have n1_ := Aside0.mk (below_step (by repeat (first | (with_reducible first | exact HB.out | apply below_alloc | apply pw_below_drewN | apply below_drew1 | refine below_set ?_ GE101.out) | exact HB.out)) hb); have n2_ := Aside0.mk (hbox); have n3_ := Aside0.mk ((by rw [hg]; exact (below_size (by repeat (first | (with_reducible first | exact HB.out | apply below_alloc | apply pw_below_drewN | apply below_drew1 | refine below_set ?_ GE101.out) | exact HB.out))) : w.heap.size ≤ gb102)); have n4_ := Aside0.mk ((by rw [hg]; exact (below_size (by repeat (first | (with_reducible first | exact HB.out | apply below_alloc | apply pw_below_drewN | apply below_drew1 | refine below_set ?_ GE101.out) | exact HB.out))) : w.heap.size ≤ gb102)); have n5_ := Aside0.mk ((by rw [hg]; exact Nat.ne_of_lt (blk_lt (g := gb101) (o := .cells #[.int .i64 a0_0, .int .i64 a0_1, .int .i64 a0_2] 61 (0, 0)) (by (with_reducible repeat (first | refine blk_drewN ?_ _ | refine blk_drew ?_ | refine blk_alloc ?_ _)); exact BK101.out)) : gb101 ≠ gb102)); have n6_ := Aside0.mk ((by rw [hg]; exact Nat.ne_of_gt (blk_lt (g := gb101) (o := .cells #[.int .i64 a0_0, .int .i64 a0_1, .int .i64 a0_2] 61 (0, 0)) (by (with_reducible repeat (first | refine blk_drewN ?_ _ | refine blk_drew ?_ | refine blk_alloc ?_ _)); exact BK101.out)) : gb102 ≠ gb101)); clear BK101; clear HB; have BK101 := n0_; have HB := n1_; have BK102 := n2_; have GW102 := n3_; have GE102 := n4_; have NB101_102 := n5_; have NB102_101 := n6_; clear n0_ n1_ n2_ n3_ n4_ n5_ n6_; clear hb hbox hg; have hnb8 := NB101_102.out; have hnc8 := NB102_101.out; have hcz9_0 : w7.cell? ⟨gb101, 0, none⟩ = some (.int .i64 a0_0) := (blk_cell BK101.out 0).trans rfl; have hcz9_1 : w7.cell? ⟨gb101, 1, none⟩ = some (.int .i64 a0_1) := (blk_cell BK101.out 1).trans rfl; have hcz9_2 : w7.cell? ⟨gb101, 2, none⟩ = some (.int .i64 a0_2) := (blk_cell BK101.out 2).trans rfl; have hfz9_0 := blk_frozen BK101.out 0; have hfz9_1 := blk_frozen BK101.out 1; have hfz9_2 := blk_frozen BK101.out 2; have hcz10_0 : w7.cell? ⟨gb102, 0, none⟩ = some (.int .i64 a1_0) := (blk_cell BK102.out 0).trans rfl; have hcz10_1 : w7.cell? ⟨gb102, 1, none⟩ = some (.int .i64 a1_1) := (blk_cell BK102.out 1).trans rfl; have hcz10_2 : w7.cell? ⟨gb102, 2, none⟩ = some (.int .i64 a1_2) := (blk_cell BK102.out 2).trans rfl; have hfz10_0 := blk_frozen BK102.out 0; have hfz10_1 := blk_frozen BK102.out 1; have hfz10_2 := blk_frozen BK102.out 2))
        go_ret
        exact ⟨by first | rfl | (simp [errW_none, errW_some] <;> rfl) | (simp [*, errW_none, errW_some] <;> rfl), by repeat (first | (with_reducible first | exact HB.out | apply below_alloc | apply pw_below_drewN | apply below_drew1 | refine below_set ?_ GE101.out | refine below_set ?_ GE102.out) | exact HB.out)⟩
      · rw [if_neg c5] at H
        have c5b0 : decide (a0_1 < (wrap64 (a1_1 + a1_2))) = false := decide_eq_false c5
        clear c5
        obtain rfl := Option.some.inj H
        go_enter Try.func56, Try.ntmps56
        go_wp2_with (first | ((with_reducible refine gate_dst (N := 2) rfl ?_); refine box_event ?hg (N := 2) ?hd (cs := #[.int .i64 a0_0, .int .i64 a0_1, .int .i64 a0_2]) (t := 61) ?hr ?_; (case hd => rfl); (case hg => rfl); (case hr => first | (go_simp; done) | (go_simp; rfl)); intro gb101 hg w11 hbox hb; have n0_ := Aside0.mk (below_step (by repeat (first | (with_reducible first | exact HB.out | apply below_alloc | apply pw_below_drewN | apply below_drew1) | exact HB.out)) hb); have n1_ := Aside0.mk (hbox); have n2_ := Aside0.mk ((by rw [hg]; exact (below_size (by repeat (first | (with_reducible first | exact HB.out | apply below_alloc | apply pw_below_drewN | apply below_drew1) | exact HB.out))) : w.heap.size ≤ gb101)); have n3_ := Aside0.mk ((by rw [hg]; exact (below_size (by repeat (first | (with_reducible first | exact HB.out | apply below_alloc | apply pw_below_drewN | apply below_drew1) | exact HB.out))) : w.heap.size ≤ gb101)); clear HB; have HB := n0_; have BK101 := n1_; have GW101 := n2_; have GE101 := n3_; clear n0_ n1_ n2_ n3_; clear hb hbox hg) | ((with_reducible refine gate_dst (N := 3) rfl ?_); refine box_event ?hg (N := 3) ?hd (cs := #[.int .i64 a1_0, .int .i64 a1_1, .int .i64 a1_2]) (t := 61) ?hr ?_; (case hd => rfl); (case hg => rfl); (case hr => first | (go_simp; done) | (go_simp; rfl)); intro gb102 hg w12 hbox hb; have n0_ := Aside0.mk (blk_below (g := gb101) (o := .cells #[.int .i64 a0_0, .int .i64 a0_1, .int .i64 a0_2] 61 (0, 0)) (by (with_reducible repeat (first | refine blk_drewN ?_ _ | refine blk_drew ?_ | refine blk_alloc ?_ _)); exact BK101.out) hb); have n1_ := Aside0.mk (below_step (by repeat (first | (with_reducible first | exact HB.out | apply below_alloc | apply pw_below_drewN | apply below_drew1 | refine below_set ?_ GE101.out) | exact HB.out)) hb); have n2_ := Aside0.mk (hbox); have n3_ := Aside0.mk ((by rw [hg]; exact (below_size (by repeat (first | (with_reducible first | exact HB.out | apply below_alloc | apply pw_below_drewN | apply below_drew1 | refine below_set ?_ GE101.out) | exact HB.out))) : w.heap.size ≤ gb102)); have n4_ := Aside0.mk ((by rw [hg]; exact (below_size (by repeat (first | (with_reducible first | exact HB.out | apply below_alloc | apply pw_below_drewN | apply below_drew1 | refine below_set ?_ GE101.out) | exact HB.out))) : w.heap.size ≤ gb102)); have n5_ := Aside0.mk ((by rw [hg]; exact Nat.ne_of_lt (blk_lt (g := gb101) (o := .cells #[.int .i64 a0_0, .int .i64 a0_1, .int .i64 a0_2] 61 (0, 0)) (by (with_reducible repeat (first | refine blk_drewN ?_ _ | refine blk_drew ?_ | refine blk_alloc ?_ _)); exact BK101.out)) : gb101 ≠ gb102)); have n6_ := Aside0.mk ((by rw [hg]; exact Nat.ne_of_gt (blk_lt (g := gb101) (o := .cells #[.int .i64 a0_0, .int .i64 a0_1, .int .i64 a0_2] 61 (0, 0)) (by (with_reducible repeat (first | refine blk_drewN ?_ _ | refine blk_drew ?_ | refine blk_alloc ?_ _)); exact BK101.out)) : gb102 ≠ gb101)); clear BK101; clear HB; have BK101 := n0_; have HB := n1_; have BK102 := n2_; have GW102 := n3_; have GE102 := n4_; have NB101_102 := n5_; have NB102_101 := n6_; clear n0_ n1_ n2_ n3_ n4_ n5_ n6_; clear hb hbox hg; have hnb13 := NB101_102.out; have hnc13 := NB102_101.out; have hcz14_0 : w12.cell? ⟨gb101, 0, none⟩ = some (.int .i64 a0_0) := (blk_cell BK101.out 0).trans rfl; have hcz14_1 : w12.cell? ⟨gb101, 1, none⟩ = some (.int .i64 a0_1) := (blk_cell BK101.out 1).trans rfl; have hcz14_2 : w12.cell? ⟨gb101, 2, none⟩ = some (.int .i64 a0_2) := (blk_cell BK101.out 2).trans rfl; have hfz14_0 := blk_frozen BK101.out 0; have hfz14_1 := blk_frozen BK101.out 1; have hfz14_2 := blk_frozen BK101.out 2; have hcz15_0 : w12.cell? ⟨gb102, 0, none⟩ = some (.int .i64 a1_0) := (blk_cell BK102.out 0).trans rfl; have hcz15_1 : w12.cell? ⟨gb102, 1, none⟩ = some (.int .i64 a1_1) := (blk_cell BK102.out 1).trans rfl; have hcz15_2 : w12.cell? ⟨gb102, 2, none⟩ = some (.int .i64 a1_2) := (blk_cell BK102.out 2).trans rfl; have hfz15_0 := blk_frozen BK102.out 0; have hfz15_1 := blk_frozen BK102.out 1; have hfz15_2 := blk_frozen BK102.out 2))
        go_ret
        exact ⟨by first | rfl | (simp [errW_none, errW_some] <;> rfl) | (simp [*, errW_none, errW_some] <;> rfl), by repeat (first | (with_reducible first | exact HB.out | apply below_alloc | apply pw_below_drewN | apply below_drew1 | refine below_set ?_ GE101.out | refine below_set ?_ GE102.out) | exact HB.out)⟩
    · rw [if_neg c4] at H
      have c4b0 : decide (a1_0 < (wrap64 (a0_0 + a0_2))) = false := decide_eq_false c4
      clear c4
      obtain rfl := Option.some.inj H
      go_enter Try.func56, Try.ntmps56
      go_wp2_with (first | ((with_reducible refine gate_dst (N := 2) rfl ?_); refine box_event ?hg (N := 2) ?hd (cs := #[.int .i64 a0_0, .int .i64 a0_1, .int .i64 a0_2]) (t := 61) ?hr ?_; (case hd => rfl); (case hg => rfl); (case hr => first | (go_simp; done) | (go_simp; rfl)); intro gb101 hg w16 hbox hb; have n0_ := Aside0.mk (below_step (by repeat (first | (with_reducible first | exact HB.out | apply below_alloc | apply pw_below_drewN | apply below_drew1) | exact HB.out)) hb); have n1_ := Aside0.mk (hbox); have n2_ := Aside0.mk ((by rw [hg]; exact (below_size (by repeat (first | (with_reducible first | exact HB.out | apply below_alloc | apply pw_below_drewN | apply below_drew1) | exact HB.out))) : w.heap.size ≤ gb101)); have n3_ := Aside0.mk ((by rw [hg]; exact (below_size (by repeat (first | (with_reducible first | exact HB.out | apply below_alloc | apply pw_below_drewN | apply below_drew1) | exact HB.out))) : w.heap.size ≤ gb101)); clear HB; have HB := n0_; have BK101 := n1_; have GW101 := n2_; have GE101 := n3_; clear n0_ n1_ n2_ n3_; clear hb hbox hg) | ((with_reducible refine gate_dst (N := 3) rfl ?_); refine box_event ?hg (N := 3) ?hd (cs := #[.int .i64 a1_0, .int .i64 a1_1, .int .i64 a1_2]) (t := 61) ?hr ?_; (case hd => rfl); (case hg => rfl); (case hr => first | (go_simp; done) | (go_simp; rfl)); intro gb102 hg w17 hbox hb; have n0_ := Aside0.mk (blk_below (g := gb101) (o := .cells #[.int .i64 a0_0, .int .i64 a0_1, .int .i64 a0_2] 61 (0, 0)) (by (with_reducible repeat (first | refine blk_drewN ?_ _ | refine blk_drew ?_ | refine blk_alloc ?_ _)); exact BK101.out) hb); have n1_ := Aside0.mk (below_step (by repeat (first | (with_reducible first | exact HB.out | apply below_alloc | apply pw_below_drewN | apply below_drew1 | refine below_set ?_ GE101.out) | exact HB.out)) hb); have n2_ := Aside0.mk (hbox); have n3_ := Aside0.mk ((by rw [hg]; exact (below_size (by repeat (first | (with_reducible first | exact HB.out | apply below_alloc | apply pw_below_drewN | apply below_drew1 | refine below_set ?_ GE101.out) | exact HB.out))) : w.heap.size ≤ gb102)); have n4_ := Aside0.mk ((by rw [hg]; exact (below_size (by repeat (first | (with_reducible first | exact HB.out | apply below_alloc | apply pw_below_drewN | apply below_drew1 | refine below_set ?_ GE101.out) | exact HB.out))) : w.heap.size ≤ gb102)); have n5_ := Aside0.mk ((by rw [hg]; exact Nat.ne_of_lt (blk_lt (g := gb101) (o := .cells #[.int .i64 a0_0, .int .i64 a0_1, .int .i64 a0_2] 61 (0, 0)) (by (with_reducible repeat (first | refine blk_drewN ?_ _ | refine blk_drew ?_ | refine blk_alloc ?_ _)); exact BK101.out)) : gb101 ≠ gb102)); have n6_ := Aside0.mk ((by rw [hg]; exact Nat.ne_of_gt (blk_lt (g := gb101) (o := .cells #[.int .i64 a0_0, .int .i64 a0_1, .int .i64 a0_2] 61 (0, 0)) (by (with_reducible repeat (first | refine blk_drewN ?_ _ | refine blk_drew ?_ | refine blk_alloc ?_ _)); exact BK101.out)) : gb102 ≠ gb101)); clear BK101; clear HB; have BK101 := n0_; have HB := n1_; have BK102 := n2_; have GW102 := n3_; have GE102 := n4_; have NB101_102 := n5_; have NB102_101 := n6_; clear n0_ n1_ n2_ n3_ n4_ n5_ n6_; clear hb hbox hg; have hnb18 := NB101_102.out; have hnc18 := NB102_101.out; have hcz19_0 : w17.cell? ⟨gb101, 0, none⟩ = some (.int .i64 a0_0) := (blk_cell BK101.out 0).trans rfl; have hcz19_1 : w17.cell? ⟨gb101, 1, none⟩ = some (.int .i64 a0_1) := (blk_cell BK101.out 1).trans rfl; have hcz19_2 : w17.cell? ⟨gb101, 2, none⟩ = some (.int .i64 a0_2) := (blk_cell BK101.out 2).trans rfl; have hfz19_0 := blk_frozen BK101.out 0; have hfz19_1 := blk_frozen BK101.out 1; have hfz19_2 := blk_frozen BK101.out 2; have hcz20_0 : w17.cell? ⟨gb102, 0, none⟩ = some (.int .i64 a1_0) := (blk_cell BK102.out 0).trans rfl; have hcz20_1 : w17.cell? ⟨gb102, 1, none⟩ = some (.int .i64 a1_1) := (blk_cell BK102.out 1).trans rfl; have hcz20_2 : w17.cell? ⟨gb102, 2, none⟩ = some (.int .i64 a1_2) := (blk_cell BK102.out 2).trans rfl; have hfz20_0 := blk_frozen BK102.out 0; have hfz20_1 := blk_frozen BK102.out 1; have hfz20_2 := blk_frozen BK102.out 2))
      go_ret
      exact ⟨by first | rfl | (simp [errW_none, errW_some] <;> rfl) | (simp [*, errW_none, errW_some] <;> rfl), by repeat (first | (with_reducible first | exact HB.out | apply below_alloc | apply pw_below_drewN | apply below_drew1 | refine below_set ?_ GE101.out | refine below_set ?_ GE102.out) | exact HB.out)⟩
  · rw [if_neg c3] at H
    have c3b0 : decide (a0_0 < (wrap64 (a1_0 + a1_2))) = false := decide_eq_false c3
    clear c3
    obtain rfl := Option.some.inj H
    go_enter Try.func56, Try.ntmps56
    go_wp2_with (first | ((with_reducible refine gate_dst (N := 2) rfl ?_); refine box_event ?hg (N := 2) ?hd (cs := #[.int .i64 a0_0, .int .i64 a0_1, .int .i64 a0_2]) (t := 61) ?hr ?_; (case hd => rfl); (case hg => rfl); (case hr => first | (go_simp; done) | (go_simp; rfl)); intro gb101 hg w21 hbox hb; have n0_ := Aside0.mk (below_step (by repeat (first | (with_reducible first | exact HB.out | apply below_alloc | apply pw_below_drewN | apply below_drew1) | exact HB.out)) hb); have n1_ := Aside0.mk (hbox); have n2_ := Aside0.mk ((by rw [hg]; exact (below_size (by repeat (first | (with_reducible first | exact HB.out | apply below_alloc | apply pw_below_drewN | apply below_drew1) | exact HB.out))) : w.heap.size ≤ gb101)); have n3_ := Aside0.mk ((by rw [hg]; exact (below_size (by repeat (first | (with_reducible first | exact HB.out | apply below_alloc | apply pw_below_drewN | apply below_drew1) | exact HB.out))) : w.heap.size ≤ gb101)); clear HB; have HB := n0_; have BK101 := n1_; have GW101 := n2_; have GE101 := n3_; clear n0_ n1_ n2_ n3_; clear hb hbox hg) | ((with_reducible refine gate_dst (N := 3) rfl ?_); refine box_event ?hg (N := 3) ?hd (cs := #[.int .i64 a1_0, .int .i64 a1_1, .int .i64 a1_2]) (t := 61) ?hr ?_; (case hd => rfl); (case hg => rfl); (case hr => first | (go_simp; done) | (go_simp; rfl)); intro gb102 hg w22 hbox hb; have n0_ := Aside0.mk (blk_below (g := gb101) (o := .cells #[.int .i64 a0_0, .int .i64 a0_1, .int .i64 a0_2] 61 (0, 0)) (by (with_reducible repeat (first | refine blk_drewN ?_ _ | refine blk_drew ?_ | refine blk_alloc ?_ _)); exact BK101.out) hb); have n1_ := Aside0.mk (below_step (by repeat (first | (with_reducible first | exact HB.out | apply below_alloc | apply pw_below_drewN | apply below_drew1 | refine below_set ?_ GE101.out) | exact HB.out)) hb); have n2_ := Aside0.mk (hbox); have n3_ := Aside0.mk ((by rw [hg]; exact (below_size (by repeat (first | (with_reducible first | exact HB.out | apply below_alloc | apply pw_below_drewN | apply below_drew1 | refine below_set ?_ GE101.out) | exact HB.out))) : w.heap.size ≤ gb102)); have n4_ := Aside0.mk ((by rw [hg]; exact (below_size (by repeat (first | (with_reducible first | exact HB.out | apply below_alloc | apply pw_below_drewN | apply below_drew1 | refine below_set ?_ GE101.out) | exact HB.out))) : w.heap.size ≤ gb102)); have n5_ := Aside0.mk ((by rw [hg]; exact Nat.ne_of_lt (blk_lt (g := gb101) (o := .cells #[.int .i64 a0_0, .int .i64 a0_1, .int .i64 a0_2] 61 (0, 0)) (by (with_reducible repeat (first | refine blk_drewN ?_ _ | refine blk_drew ?_ | refine blk_alloc ?_ _)); exact BK101.out)) : gb101 ≠ gb102)); have n6_ := Aside0.mk ((by rw [hg]; exact Nat.ne_of_gt (blk_lt (g := gb101) (o := .cells #[.int .i64 a0_0, .int .i64 a0_1, .int .i64 a0_2] 61 (0, 0)) (by (with_reducible repeat (first | refine blk_drewN ?_ _ | refine blk_drew ?_ | refine blk_alloc ?_ _)); exact BK101.out)) : gb102 ≠ gb101)); clear BK101; clear HB; have BK101 := n0_; have HB := n1_; have BK102 := n2_; have GW102 := n3_; have GE102 := n4_; have NB101_102 := n5_; have NB102_101 := n6_; clear n0_ n1_ n2_ n3_ n4_ n5_ n6_; clear hb hbox hg; have hnb23 := NB101_102.out; have hnc23 := NB102_101.out; have hcz24_0 : w22.cell? ⟨gb101, 0, none⟩ = some (.int .i64 a0_0) := (blk_cell BK101.out 0).trans rfl; have hcz24_1 : w22.cell? ⟨gb101, 1, none⟩ = some (.int .i64 a0_1) := (blk_cell BK101.out 1).trans rfl; have hcz24_2 : w22.cell? ⟨gb101, 2, none⟩ = some (.int .i64 a0_2) := (blk_cell BK101.out 2).trans rfl; have hfz24_0 := blk_frozen BK101.out 0; have hfz24_1 := blk_frozen BK101.out 1; have hfz24_2 := blk_frozen BK101.out 2; have hcz25_0 : w22.cell? ⟨gb102, 0, none⟩ = some (.int .i64 a1_0) := (blk_cell BK102.out 0).trans rfl; have hcz25_1 : w22.cell? ⟨gb102, 1, none⟩ = some (.int .i64 a1_1) := (blk_cell BK102.out 1).trans rfl; have hcz25_2 : w22.cell? ⟨gb102, 2, none⟩ = some (.int .i64 a1_2) := (blk_cell BK102.out 2).trans rfl; have hfz25_0 := blk_frozen BK102.out 0; have hfz25_1 := blk_frozen BK102.out 1; have hfz25_2 := blk_frozen BK102.out 2))
    go_ret
    exact ⟨by first | rfl | (simp [errW_none, errW_some] <;> rfl) | (simp [*, errW_none, errW_some] <;> rfl), by repeat (first | (with_reducible first | exact HB.out | apply below_alloc | apply pw_below_drewN | apply below_drew1 | refine below_set ?_ GE101.out | refine below_set ?_ GE102.out) | exact HB.out)⟩
end Go.Proofs.Ytnfiejagokefcaa.P

namespace Go.Proofs.Ytnfiejagokefcaa.Gr
open Go Go.RowKit
structure Gr (X : World) where
  W : World
  h : Below X.heap.size X W
instance (X : World) : Inhabited (Gr X) := ⟨⟨X, Below.refl _ _⟩⟩
theorem wp_region_gr {P : Program} {id : Nat} {Q : Exit → Act → World → Prop} {a : Act} {X : World} {l : List Oper} (hm : P.follows .mixedOrders = true) (hB : Region.lexB .any l.toArray = true)
    (h : wpQuiet P l.toArray (fun W => ∃ p : Gr X, W = p.W) (fun a' => ∀ w', (∃ p : Gr X, w' = p.W) → Q .normal a' w') l a) : (Code.region id l.toArray true).wp P Q a X :=
  wp_region_quiet (C := fun W => ∃ p : Gr X, W = p.W) hm hB ⟨⟨{ X with drawn := X.drawn + 1 }, (Below.refl X.heap.size X).drew⟩, rfl⟩ (by simpa using h)
theorem cell_gr {X : World} {a : Addr} {v : Value} (hb : a.block < X.heap.size) (h : X.cell? a = some v) (p : Gr X) : p.W.cell? a = some v := (p.h.cell hb).trans h
theorem Calls.gr_of {P : Program} {f : FuncId} {args : Array Value} {X : World} {p : Gr X} {v : Value} (h : Calls P f args p.W fun e w' => e = .returned v ∧ Below p.W.heap.size p.W w') :
    Calls P f args p.W fun e w'' => e = .returned v ∧ ∃ q : Gr X, w'' = q.W :=
  h.mono fun _ w' ⟨he, hb⟩ => ⟨he, ⟨⟨w', p.h.trans (hb.mono p.h.size)⟩, rfl⟩⟩
end Go.Proofs.Ytnfiejagokefcaa.Gr

namespace Go.Proofs.Ytnfiejagokefcaa.P
open Go.RowKit Go.Proofs.YtnfiejagokefcaaW.PrintWords Go.Proofs.YtnfiejagokefcaaW.PrintLast Go.Proofs.YtnfiejagokefcaaW.PrintMore
attribute [local go_sem] max2_int min2_int max_two min_two max_three min_three max_four min_four
set_option linter.unusedVariables false
set_option linter.unusedSimpArgs false
def ovl (a b : S61) : Bool := decide (a.f0 < wrap64 (b.f0 + b.f2)) && decide (b.f0 < wrap64 (a.f0 + a.f2)) && decide (a.f1 < wrap64 (b.f1 + b.f2)) && decide (b.f1 < wrap64 (a.f1 + a.f2))
theorem ovl_f (a b : S61) : impl_overlap.f a.f0 a.f1 a.f2 b.f0 b.f1 b.f2 = some (ovl a b) := by
  unfold impl_overlap.f ovl
  by_cases c1 : a.f0 < wrap64 (b.f0 + b.f2) <;> by_cases c2 : b.f0 < wrap64 (a.f0 + a.f2) <;> by_cases c3 : a.f1 < wrap64 (b.f1 + b.f2) <;> simp [c1, c2, c3]
theorem impl_IsCut_clo (x s : S61) (B : Nat) (w : World) (hB : B < w.heap.size) (h0 : w.cell? ⟨B, 0, none⟩ = some (.int .i64 s.f0)) (h1 : w.cell? ⟨B, 1, none⟩ = some (.int .i64 s.f1)) (h2 : w.cell? ⟨B, 2, none⟩ = some (.int .i64 s.f2)) :
    Calls Try.prog 55 #[.agg #[.int .i64 x.f0, .int .i64 x.f1, .int .i64 x.f2], .pointer (some ⟨B, 0, none⟩)] w fun e w' => e = .returned (.bool (ovl s x)) ∧ Below w.heap.size w w' := by
  have HF := Aside0.mk (fun W => impl_overlap.calls s.f0 s.f1 s.f2 x.f0 x.f1 x.f2 _ W (ovl_f s x))
  generalize ovl s x = b at HF ⊢
  have hne : B ≠ w.heap.size := by omega
  go_enter Try.func55, Try.ntmps55
  go_wp2_with (go_at_call 56; refine (HF.out _).mono ?_; rintro e w' ⟨rfl, hb⟩)
  go_ret
  exact ⟨rfl, ((Below.refl _ _).alloc (Nat.le_refl _) _).trans (hb.mono (by simp))⟩
def cmpP (a b : S61) : Int := if a.f1 = b.f1 then wrap64 (a.f0 - b.f0) else wrap64 (a.f1 - b.f1)
theorem cmpP_f (a b : S61) : impl_comparePlaces.f a.f0 a.f1 a.f2 b.f0 b.f1 b.f2 = some (cmpP a b) := by
  unfold impl_comparePlaces.f cmpP; split <;> rfl
theorem within_b (n lo hi : Int) : impl_within.f n lo hi = some (decide (lo ≤ n) && decide (n ≤ hi)) := by
  unfold impl_within.f; by_cases c : lo ≤ n <;> simp [c]
theorem isWide_b (n : Int) : impl_isWide.f n = some (decide (1 ≤ n) && decide (n ≤ 500)) := by
  unfold impl_isWide.f; rw [within_b]; rfl
def ok1 (W H : Int) (s : S61) : Bool := decide (1 ≤ s.f2) && decide (s.f2 ≤ mn W H)
def ok2 (W : Int) (s : S61) : Bool := decide (0 ≤ s.f0) && decide (s.f0 ≤ wrap64 (W - s.f2))
def ok3 (H : Int) (s : S61) : Bool := decide (0 ≤ s.f1) && decide (s.f1 ≤ wrap64 (H - s.f2))
def ok4 (l : List S61) (s : S61) (i : Nat) : Bool := decide (i = 0) || decide (cmpP (rd_T61 l ((i - 1 : Nat) : Int)) s < 0)
def okAt (W H : Int) (l : List S61) (i : Nat) : Bool :=
  let s := rd_T61 l (i : Int)
  ok1 W H s && ok2 W s && ok3 H s && ok4 l s i && !((l.take i).any (ovl s))
def areaW : List S61 → Int → Int
  | [], a => a
  | s :: l, a => areaW l (wrap64 (a + wrap64 (s.f2 * s.f2)))
theorem areaW_snoc (l : List S61) (s : S61) : ∀ a, areaW (l ++ [s]) a = wrap64 (areaW l a + wrap64 (s.f2 * s.f2)) := by
  induction l with
  | nil => intro a; rfl
  | cons t l ih => intro a; simp only [List.cons_append, areaW, ih]
def isCutB (W H : Int) (l : List S61) : Bool :=
  (decide (1 ≤ W) && decide (W ≤ 500)) && (decide (1 ≤ H) && decide (H ≤ 500)) && decide (l.length ≤ 30) && (List.range l.length).all (okAt W H l) && decide (areaW l 0 = wrap64 (W * H))
def impl_IsCut.f (a0_0 : Int) (a0_1 : Int) (l0_2 : List S61) : Option Bool := some (isCutB a0_0 a0_1 l0_2)
open Go.Proofs.Ytnfiejagokefcaa.Gr in
set_option maxHeartbeats 4000000 in
set_option maxRecDepth 100000 in
theorem impl_IsCut.calls (a0_0 : Int) (a0_1 : Int) (A0_2 : Option Addr) (c0_2 : Nat) (l0_2 : List S61) (r : Bool) (w : World) (hr0_2 : Kd.C k61 w A0_2 l0_2.length l0_2) (hc0_2 : l0_2.length ≤ c0_2) (h : impl_IsCut.f a0_0 a0_1 l0_2 = some r) :
    Calls Try.prog 33 #[.agg #[.int .i64 a0_0, .int .i64 a0_1, .slice A0_2 l0_2.length c0_2]] w fun e w' => e = .returned (.bool r) ∧ Below w.heap.size w w' := by
  obtain rfl : isCutB a0_0 a0_1 l0_2 = r := Option.some.inj h
  clear h
  have hlen := hr0_2.2.1
  have HR := Aside0.mk hr0_2
  clear hr0_2
  have HW := Aside0.mk (fun n W => impl_isWide.calls n _ W (isWide_b n))
  have eg : ∀ args w, (callFunc 55 args).run Try.prog w = .ok (.enter 55 args) w := enters_of Try.func55 (by kernel_rfl) rfl
  have hu := Try.underlying61
  have hu2 := Try.underlying31
  generalize hq : isCutB a0_0 a0_1 l0_2 = q
  have HQ := Aside0.mk hq
  clear hq
  cases b1 : (decide (1 ≤ a0_0) && decide (a0_0 ≤ 500)) with
  | false =>
    have hq : q = false := by rw [← HQ.out]; unfold isCutB; rw [b1]; simp
    subst hq
    have H1 := Aside0.mk (fun W => by have := HW.out a0_0 W; rw [b1] at this; exact this)
    clear b1
    go_enter Try.func33, Try.ntmps33
    go_wp2_with (go_at_call 51; refine (H1.out _).mono ?_; rintro e w1 ⟨rfl, ⟨nd, rfl⟩⟩)
    go_ret
    exact ⟨rfl, by repeat (first | exact Below.refl _ _ | apply pw_below_drewN | apply below_alloc)⟩
  | true =>
  cases b2 : (decide (1 ≤ a0_1) && decide (a0_1 ≤ 500)) with
  | false =>
    have hq : q = false := by rw [← HQ.out]; unfold isCutB; rw [b2]; simp
    subst hq
    have H1 := Aside0.mk (fun W => by have := HW.out a0_0 W; rw [b1] at this; exact this)
    have H2 := Aside0.mk (fun W => by have := HW.out a0_1 W; rw [b2] at this; exact this)
    clear b1 b2
    go_enter Try.func33, Try.ntmps33
    go_wp2_with fail
    refine (H1.out _).mono ?_
    rintro e w1 ⟨rfl, ⟨nd, rfl⟩⟩
    go_wp2_with fail
    refine (H2.out _).mono ?_
    rintro e w1 ⟨rfl, ⟨nd2, rfl⟩⟩
    go_wp2
    go_ret
    exact ⟨rfl, by repeat (first | exact Below.refl _ _ | apply pw_below_drewN | apply below_alloc)⟩
  | true =>
  cases b3 : decide (l0_2.length ≤ 30) with
  | false =>
    have hq : q = false := by rw [← HQ.out]; unfold isCutB; rw [b3]; simp
    subst hq
    have b3' : decide (30 < l0_2.length) = true := by simp at b3 ⊢; omega
    have b3z : decide ((30 : Int) < (l0_2.length : Int)) = true := by simp at b3 ⊢; omega
    have H1 := Aside0.mk (fun W => by have := HW.out a0_0 W; rw [b1] at this; exact this)
    have H2 := Aside0.mk (fun W => by have := HW.out a0_1 W; rw [b2] at this; exact this)
    clear b1 b2 b3
    go_enter Try.func33, Try.ntmps33
    go_wp2_with fail
    refine (H1.out _).mono ?_
    rintro e w1 ⟨rfl, ⟨nd, rfl⟩⟩
    go_wp2_with fail
    refine (H2.out _).mono ?_
    rintro e w1 ⟨rfl, ⟨nd2, rfl⟩⟩
    go_wp2
    go_ret
    exact ⟨rfl, by repeat (first | exact Below.refl _ _ | apply pw_below_drewN | apply below_alloc)⟩
  | true =>
    have b3' : decide (30 < l0_2.length) = false := by simp at b3 ⊢; omega
    have b3z : decide ((30 : Int) < (l0_2.length : Int)) = false := by simp at b3 ⊢; omega
    have B123 := Aside0.mk (And.intro b1 (And.intro b2 b3))
    have H1 := Aside0.mk (fun W => by have := HW.out a0_0 W; rw [b1] at this; exact this)
    have H2 := Aside0.mk (fun W => by have := HW.out a0_1 W; rw [b2] at this; exact this)
    clear b1 b2 b3
    go_enter Try.func33, Try.ntmps33
    go_wp2_with fail
    refine (H1.out _).mono ?_
    rintro e w1 ⟨rfl, ⟨nd, rfl⟩⟩
    go_wp2_with fail
    refine (H2.out _).mono ?_
    rintro e w1 ⟨rfl, ⟨nd2, rfl⟩⟩
    go_wp2
    clear b3' b3z
    have HC0 : ∀ X, X = ((w.alloc (.cells #[.int .i64 a0_0, .int .i64 a0_1, .slice A0_2 l0_2.length c0_2] 31)).drewN (nd + nd2)) → Aside0 (Below w.heap.size w X ∧ X.heap.size = w.heap.size + 1 ∧ X.cell? ⟨w.heap.size, 0, none⟩ = some (.int .i64 a0_0) ∧ X.cell? ⟨w.heap.size, 1, none⟩ = some (.int .i64 a0_1) ∧ X.cell? ⟨w.heap.size, 2, none⟩ = some (.slice A0_2 l0_2.length c0_2)) := by
      rintro X rfl
      exact ⟨by repeat (first | exact Below.refl _ _ | apply pw_below_drewN | apply below_alloc), by simp, by simp, by simp, by simp⟩
    replace HC0 := HC0 _ rfl
    generalize ((w.alloc (.cells #[.int .i64 a0_0, .int .i64 a0_1, .slice A0_2 l0_2.length c0_2] 31)).drewN (nd + nd2)) = W1 at HC0 ⊢
    have HI := Aside0.mk (fun a b c W => impl_within.calls a b c _ W (within_b a b c))
    go_loopg [3, 4, 5, 25] l0_2.length (fun gg v3 v4 v5 v25 wc => ∃ i : Nat, i ≤ l0_2.length ∧ l0_2.length - i ≤ gg ∧ v25 = .int .i64 i ∧ v3 = .int .i64 (areaW (l0_2.take i) 0) ∧ Aside0 (Below W1.heap.size W1 wc) ∧ Aside0 (∀ j, j < i → okAt a0_0 a0_1 l0_2 j = true))
    case atStart => exact ⟨0, by omega, by omega, rfl, rfl, ⟨Below.refl _ _⟩, ⟨fun j hj => by omega⟩⟩
    case round =>
      obtain ⟨i, hi, hg, rfl, rfl, HB, HO⟩ := hrel
      have HBw := Aside0.mk (HC0.out.1.trans (HB.out.mono HC0.out.1.size))
      have hsz : w.heap.size < wr.heap.size := by have h1 := HC0.out.2.1; have h2 := HB.out.size; omega
      have d0 : wr.cell? ⟨w.heap.size, 0, none⟩ = some (.int .i64 a0_0) := (HB.out.cell (p := ⟨w.heap.size, 0, none⟩) (by have := HC0.out.2.1; show w.heap.size < _; omega)).trans HC0.out.2.2.1
      have d1 : wr.cell? ⟨w.heap.size, 1, none⟩ = some (.int .i64 a0_1) := (HB.out.cell (p := ⟨w.heap.size, 1, none⟩) (by have := HC0.out.2.1; show w.heap.size < _; omega)).trans HC0.out.2.2.2.1
      have d2 : wr.cell? ⟨w.heap.size, 2, none⟩ = some (.slice A0_2 l0_2.length c0_2) := (HB.out.cell (p := ⟨w.heap.size, 2, none⟩) (by have := HC0.out.2.1; show w.heap.size < _; omega)).trans HC0.out.2.2.2.2
      by_cases hlt : i < l0_2.length
      · have hltz : decide ((i : Int) < (l0_2.length : Int)) = true := by simp; omega
        obtain ⟨ad, e1, hx0, hx1, hx2⟩ := at_T61 (Kd.C_below HR.out HBw.out) (i : Int) (by omega) (by omega)
        cases e1
        simp only [Int.toNat_natCast] at hx0 hx1 hx2
        have HOK : Aside0 (okAt a0_0 a0_1 l0_2 i = (ok1 a0_0 a0_1 (rd_T61 l0_2 (i : Int)) && ok2 a0_0 (rd_T61 l0_2 (i : Int)) && ok3 a0_1 (rd_T61 l0_2 (i : Int)) && ok4 l0_2 (rd_T61 l0_2 (i : Int)) i && !((l0_2.take i).any (ovl (rd_T61 l0_2 (i : Int)))))) := ⟨rfl⟩
        have HNX : Aside0 (l0_2.take (i + 1) = l0_2.take i ++ [rd_T61 l0_2 (i : Int)]) := ⟨by rw [List.take_succ_eq_append_getElem hlt]; simp [rd_T61, hlt]⟩
        generalize hss : rd_T61 l0_2 (i : Int) = s at hx0 hx1 hx2 HOK HNX
        clear hss
        have hne : w.heap.size ≠ wr.heap.size := by omega
        have HF := Aside0.mk (fun (h : okAt a0_0 a0_1 l0_2 i = false) => show isCutB a0_0 a0_1 l0_2 = false by
          unfold isCutB
          have : (List.range l0_2.length).all (okAt a0_0 a0_1 l0_2) = false := by
            rw [List.all_eq_false]; exact ⟨i, List.mem_range.2 hlt, by rw [h]; simp⟩
          rw [this]; simp)
        obtain ⟨m, hm⟩ : ∃ m, mn a0_0 a0_1 = m := ⟨_, rfl⟩
        have hmm : (if a0_1 < a0_0 then a0_1 else a0_0) = m := hm
        have HM := Aside0.mk hm
        clear hm
        cases k1 : ok1 a0_0 a0_1 s with
        | false =>
          have hq : q = false := by rw [← HQ.out]; exact HF.out (by rw [HOK.out, k1]; simp)
          subst hq
          have V1 : Aside0 (∀ W, Calls Try.prog 52 #[.int .i64 s.f2, .int .i64 1, .int .i64 m] W fun e w' => e = .returned (.bool false) ∧ Drawn0 W w') := ⟨fun W => by have := HI.out s.f2 1 m W; rw [show (decide (1 ≤ s.f2) && decide (s.f2 ≤ m)) = false from by rw [← HM.out]; exact k1] at this; exact this⟩
          clear k1
          go_wp2_with fail
          refine (V1.out _).mono ?_
          rintro e w1 ⟨rfl, ⟨nd1, rfl⟩⟩
          go_wp2
          go_ret
          exact ⟨rfl, by repeat (first | exact HBw.out | apply pw_below_drewN | apply below_alloc)⟩
        | true =>
        have V1 : Aside0 (∀ W, Calls Try.prog 52 #[.int .i64 s.f2, .int .i64 1, .int .i64 m] W fun e w' => e = .returned (.bool true) ∧ Drawn0 W w') := ⟨fun W => by have := HI.out s.f2 1 m W; rw [show (decide (1 ≤ s.f2) && decide (s.f2 ≤ m)) = true from by rw [← HM.out]; exact k1] at this; exact this⟩
        have K1 := Aside0.mk k1
        clear k1
        cases k2 : ok2 a0_0 s with
        | false =>
          have hq : q = false := by rw [← HQ.out]; exact HF.out (by rw [HOK.out, k2]; simp)
          subst hq
          have V2 : Aside0 (∀ W, Calls Try.prog 52 #[.int .i64 s.f0, .int .i64 0, .int .i64 (wrap64 (a0_0 - s.f2))] W fun e w' => e = .returned (.bool false) ∧ Drawn0 W w') := ⟨fun W => by have := HI.out s.f0 0 (wrap64 (a0_0 - s.f2)) W; rw [show (decide (0 ≤ s.f0) && decide (s.f0 ≤ wrap64 (a0_0 - s.f2))) = false from k2] at this; exact this⟩
          clear k2
          go_wp2_with fail
          refine (V1.out _).mono ?_
          rintro e w1 ⟨rfl, ⟨nd1, rfl⟩⟩
          go_wp2_with fail
          refine (V2.out _).mono ?_
          rintro e w1 ⟨rfl, ⟨nd1, rfl⟩⟩
          go_wp2
          go_ret
          exact ⟨rfl, by repeat (first | exact HBw.out | apply pw_below_drewN | apply below_alloc)⟩
        | true =>
        have V2 : Aside0 (∀ W, Calls Try.prog 52 #[.int .i64 s.f0, .int .i64 0, .int .i64 (wrap64 (a0_0 - s.f2))] W fun e w' => e = .returned (.bool true) ∧ Drawn0 W w') := ⟨fun W => by have := HI.out s.f0 0 (wrap64 (a0_0 - s.f2)) W; rw [show (decide (0 ≤ s.f0) && decide (s.f0 ≤ wrap64 (a0_0 - s.f2))) = true from k2] at this; exact this⟩
        have K2 := Aside0.mk k2
        clear k2
        cases k3 : ok3 a0_1 s with
        | false =>
          have hq : q = false := by rw [← HQ.out]; exact HF.out (by rw [HOK.out, k3]; simp)
          subst hq
          have V3 : Aside0 (∀ W, Calls Try.prog 52 #[.int .i64 s.f1, .int .i64 0, .int .i64 (wrap64 (a0_1 - s.f2))] W fun e w' => e = .returned (.bool false) ∧ Drawn0 W w') := ⟨fun W => by have := HI.out s.f1 0 (wrap64 (a0_1 - s.f2)) W; rw [show (decide (0 ≤ s.f1) && decide (s.f1 ≤ wrap64 (a0_1 - s.f2))) = false from k3] at this; exact this⟩
          clear k3
          go_wp2_with fail
          refine (V1.out _).mono ?_
          rintro e w1 ⟨rfl, ⟨nd1, rfl⟩⟩
          go_wp2_with fail
          refine (V2.out _).mono ?_
          rintro e w1 ⟨rfl, ⟨nd1, rfl⟩⟩
          go_wp2_with fail
          refine (V3.out _).mono ?_
          rintro e w1 ⟨rfl, ⟨nd1, rfl⟩⟩
          go_wp2
          go_ret
          exact ⟨rfl, by repeat (first | exact HBw.out | apply pw_below_drewN | apply below_alloc)⟩
        | true =>
        have V3 : Aside0 (∀ W, Calls Try.prog 52 #[.int .i64 s.f1, .int .i64 0, .int .i64 (wrap64 (a0_1 - s.f2))] W fun e w' => e = .returned (.bool true) ∧ Drawn0 W w') := ⟨fun W => by have := HI.out s.f1 0 (wrap64 (a0_1 - s.f2)) W; rw [show (decide (0 ≤ s.f1) && decide (s.f1 ≤ wrap64 (a0_1 - s.f2))) = true from k3] at this; exact this⟩
        have K3 := Aside0.mk k3
        clear k3
        go_wp2_with fail
        refine (V1.out _).mono ?_
        rintro e w1 ⟨rfl, ⟨nd1, rfl⟩⟩
        go_wp2_with fail
        refine (V2.out _).mono ?_
        rintro e w1 ⟨rfl, ⟨nd2', rfl⟩⟩
        go_wp2_with fail
        refine (V3.out _).mono ?_
        rintro e w1 ⟨rfl, ⟨nd3, rfl⟩⟩
        go_wp2
        have HX : ∀ X, X = ((wr.alloc (.cells #[.int .i64 s.f0, .int .i64 s.f1, .int .i64 s.f2] 61)).drewN (nd1 + nd2' + nd3)) → Aside0 (Below w.heap.size w X ∧ Below W1.heap.size W1 X ∧ X.heap.size = wr.heap.size + 1) ∧ X.cell? ⟨w.heap.size, 2, none⟩ = some (.slice (some ad) l0_2.length c0_2) ∧ X.cell? ⟨wr.heap.size, 0, none⟩ = some (.int .i64 s.f0) ∧ X.cell? ⟨wr.heap.size, 1, none⟩ = some (.int .i64 s.f1) ∧ X.cell? ⟨wr.heap.size, 2, none⟩ = some (.int .i64 s.f2) := by
          rintro X rfl
          refine ⟨⟨by repeat (first | exact HBw.out | apply pw_below_drewN | apply below_alloc), by repeat (first | exact HB.out | apply pw_below_drewN | apply below_alloc), by simp⟩, ?_, ?_, ?_, ?_⟩
          · have hbx : Below wr.heap.size wr ((wr.alloc (.cells #[.int .i64 s.f0, .int .i64 s.f1, .int .i64 s.f2] 61)).drewN (nd1 + nd2' + nd3)) := by repeat (first | exact Below.refl _ _ | apply pw_below_drewN | apply below_alloc)
            exact (hbx.cell (p := ⟨w.heap.size, 2, none⟩) hsz).trans d2
          · simp
          · simp
          · simp
        obtain ⟨XF, x0, x1, x2, x3⟩ := HX _ rfl
        generalize ((wr.alloc (.cells #[.int .i64 s.f0, .int .i64 s.f1, .int .i64 s.f2] 61)).drewN (nd1 + nd2' + nd3)) = X at XF x0 x1 x2 x3 ⊢
        clear HX d0 d1 d2 hx0 hx1 hx2
        have HCF : Aside0 (∀ W, Below X.heap.size X W → Calls Try.prog 54 #[.slice (some ad) i c0_2, .func (.func 55) #[] #[.pointer (some ⟨wr.heap.size, 0, none⟩)]] W fun e w' => e = .returned (.bool ((l0_2.take i).any (ovl s))) ∧ Below W.heap.size W w') := ⟨fun W hW => by
          have hC := Kd.C_below (Kd.C_below HR.out XF.out.1) hW
          have hT : Kd.C k61 W (some ad) (l0_2.take i).length (l0_2.take i) := by
            refine ⟨rfl, by have := hC.2.1; simp; omega, fun h => ?_⟩
            obtain ⟨ad', e, hh⟩ := hC.2.2 (by omega)
            refine ⟨ad', e, fun j p hj => hh j p ?_⟩
            rw [List.getElem?_take] at hj
            split at hj
            · exact hj
            · cases hj
          have hl : (l0_2.take i).length = i := by simp; omega
          have hh := slices_ContainsFunc_sq (l0_2.take i) (some ad) c0_2 55 #[.pointer (some ⟨wr.heap.size, 0, none⟩)] (ovl s) W hT (by omega) eg (fun V x hV => by
            have hB : wr.heap.size < W.heap.size := by have := XF.out.2.2; have := hW.size; omega
            refine (impl_IsCut_clo x s wr.heap.size V (by have := hV.size; omega) ?_ ?_ ?_).mono ?_
            · exact (hV.cell (p := ⟨wr.heap.size, 0, none⟩) hB).trans ((hW.cell (p := ⟨wr.heap.size, 0, none⟩) (by have := XF.out.2.2; show wr.heap.size < _; omega)).trans x1)
            · exact (hV.cell (p := ⟨wr.heap.size, 1, none⟩) hB).trans ((hW.cell (p := ⟨wr.heap.size, 1, none⟩) (by have := XF.out.2.2; show wr.heap.size < _; omega)).trans x2)
            · exact (hV.cell (p := ⟨wr.heap.size, 2, none⟩) hB).trans ((hW.cell (p := ⟨wr.heap.size, 2, none⟩) (by have := XF.out.2.2; show wr.heap.size < _; omega)).trans x3)
            · rintro e w' ⟨rfl, hb⟩
              exact ⟨rfl, hV.trans (hb.mono hV.size)⟩)
          rw [hl] at hh
          exact hh⟩
        have hXs := Aside0.mk XF.out.2.2
        have x0' := fun p => cell_gr (p := p) (by have := hXs.out; show w.heap.size < _; omega) x0
        have x1' := fun p => cell_gr (p := p) (by have := hXs.out; show wr.heap.size < _; omega) x1
        have x2' := fun p => cell_gr (p := p) (by have := hXs.out; show wr.heap.size < _; omega) x2
        have x3' := fun p => cell_gr (p := p) (by have := hXs.out; show wr.heap.size < _; omega) x3
        clear x0 x1 x2 x3
        generalize hb5 : (l0_2.take i).any (ovl s) = b5 at HCF HOK
        clear hb5
        have HCP : Aside0 (∀ W, Calls Try.prog 53 #[.agg #[.int .i64 (rd_T61 l0_2 ((i - 1 : Nat) : Int)).f0, .int .i64 (rd_T61 l0_2 ((i - 1 : Nat) : Int)).f1, .int .i64 (rd_T61 l0_2 ((i - 1 : Nat) : Int)).f2], .agg #[.int .i64 s.f0, .int .i64 s.f1, .int .i64 s.f2]] W fun e w' => e = .returned (.int .i64 (cmpP (rd_T61 l0_2 ((i - 1 : Nat) : Int)) s)) ∧ Below W.heap.size W w') := ⟨fun W => impl_comparePlaces.calls _ _ _ _ _ _ _ W (cmpP_f _ s)⟩
        by_cases hi0 : i = 0
        · have z1 : decide ((0 : Int) < (i : Int)) = false := by simp; omega
          have z2 : decide (0 < i) = false := by simp; omega
          have KK4 : ok4 l0_2 s i = true := by unfold ok4; simp [hi0]
          have HK4 := Aside0.mk KK4
          clear KK4 hi0
          cases b5 with
          | true =>
            have hq : q = false := by rw [← HQ.out]; exact HF.out (by rw [HOK.out]; simp)
            subst hq
            refine wp_region_gr (by kernel_rfl) (by kernel_rfl) ?_
            repeat (go_big_quiet_step (first | (go_at_call 54; refine Calls.gr_of (HCF.out _ (Gr.h _))) | (go_at_call 53; refine Calls.gr_of (HCP.out _))))
            refine wpQuiet_nil ?_
            intro W2 hw'
            obtain ⟨⟨V2, hB2⟩, hw''⟩ := hw'
            replace hw'' : W2 = V2 := hw''
            subst hw''
            go_wp2
            go_ret
            exact ⟨rfl, XF.out.1.trans (hB2.mono XF.out.1.size)⟩
          | false =>
            refine wp_region_gr (by kernel_rfl) (by kernel_rfl) ?_
            repeat (go_big_quiet_step (first | (go_at_call 54; refine Calls.gr_of (HCF.out _ (Gr.h _))) | (go_at_call 53; refine Calls.gr_of (HCP.out _))))
            refine wpQuiet_nil ?_
            intro W2 hw'
            obtain ⟨⟨V2, hB2⟩, hw''⟩ := hw'
            replace hw'' : W2 = V2 := hw''
            subst hw''
            have y3 : W2.cell? ⟨wr.heap.size, 2, none⟩ = some (.int .i64 s.f2) := x3' ⟨W2, hB2⟩
            have HB2 := Aside0.mk hB2
            clear hB2 x0' x1' x2' x3'
            go_wp2
            go_roundg (l0_2.length - (i + 1))
            case measure => omega
            case rel =>
              refine ⟨i + 1, by omega, by omega, by go_num, ?_, ⟨XF.out.2.1.trans (HB2.out.mono XF.out.2.1.size)⟩, ⟨fun j hj => ?_⟩⟩
              · rw [HNX.out, areaW_snoc]
              · by_cases e : j = i
                · subst e; rw [HOK.out, K1.out, K2.out, K3.out, HK4.out]; rfl
                · exact HO.out j (by omega)
        · have z1 : decide ((0 : Int) < (i : Int)) = true := by simp; omega
          have z2 : decide (0 < i) = true := by simp; omega
          have hi1 : i - 1 + 1 = i := by omega
          obtain ⟨adp, ep, hp0, hp1, hp2⟩ := at_T61 (Kd.C_below HR.out XF.out.1) ((i - 1 : Nat) : Int) (by omega) (by omega)
          obtain rfl : ad = adp := by injection ep
          have hlt' := Kd.C_lt (Kd.C_below HR.out XF.out.1) (show 0 < l0_2.length by omega) (by decide)
          simp only [Int.toNat_natCast] at hp0 hp1 hp2
          have KK4 : ok4 l0_2 s i = decide (cmpP (rd_T61 l0_2 ((i - 1 : Nat) : Int)) s < 0) := by unfold ok4; simp [hi0]
          have HK4 := Aside0.mk KK4
          clear KK4 hi0 ep
          generalize rd_T61 l0_2 ((i - 1 : Nat) : Int) = t at HCP HK4 hp0 hp1 hp2
          generalize hcc : cmpP t s = cc at HCP HK4
          clear hcc
          have hlb : (ad.add ((i - 1) * 3)).block < X.heap.size := by rw [show (ad.add ((i - 1) * 3)).block = ad.block from by unfold Addr.add; split <;> rfl]; exact hlt'
          have hp0' := fun p => cell_gr (p := p) hlb hp0
          have hp1' := fun p => cell_gr (p := p) (a := ⟨(ad.add ((i - 1) * 3)).block, (ad.add ((i - 1) * 3)).off + 1, none⟩) hlb hp1
          have hp2' := fun p => cell_gr (p := p) (a := ⟨(ad.add ((i - 1) * 3)).block, (ad.add ((i - 1) * 3)).off + 2, none⟩) hlb hp2
          clear hp0 hp1 hp2 hlt' hlb
          by_cases hc0 : cc < 0
          · have z3 : decide (0 ≤ cc) = false := by simp; omega
            have HC9 := Aside0.mk hc0
            clear hc0
            cases b5 with
            | true =>
              have hq : q = false := by rw [← HQ.out]; exact HF.out (by rw [HOK.out]; simp)
              subst hq
              refine wp_region_gr (by kernel_rfl) (by kernel_rfl) ?_
              repeat (go_big_quiet_step (first | (go_at_call 54; refine Calls.gr_of (HCF.out _ (Gr.h _))) | (go_at_call 53; refine Calls.gr_of (HCP.out _))))
              refine wpQuiet_nil ?_
              intro W2 hw'
              obtain ⟨⟨V2, hB2⟩, hw''⟩ := hw'
              replace hw'' : W2 = V2 := hw''
              subst hw''
              go_wp2
              go_ret
              exact ⟨rfl, XF.out.1.trans (hB2.mono XF.out.1.size)⟩
            | false =>
              refine wp_region_gr (by kernel_rfl) (by kernel_rfl) ?_
              repeat (go_big_quiet_step (first | (go_at_call 54; refine Calls.gr_of (HCF.out _ (Gr.h _))) | (go_at_call 53; refine Calls.gr_of (HCP.out _))))
              refine wpQuiet_nil ?_
              intro W2 hw'
              obtain ⟨⟨V2, hB2⟩, hw''⟩ := hw'
              replace hw'' : W2 = V2 := hw''
              subst hw''
              have y3 : W2.cell? ⟨wr.heap.size, 2, none⟩ = some (.int .i64 s.f2) := x3' ⟨W2, hB2⟩
              have HB2 := Aside0.mk hB2
              clear hB2 x0' x1' x2' x3'
              go_wp2
              go_roundg (l0_2.length - (i + 1))
              case measure => omega
              case rel =>
                refine ⟨i + 1, by omega, by omega, by go_num, ?_, ⟨XF.out.2.1.trans (HB2.out.mono XF.out.2.1.size)⟩, ⟨fun j hj => ?_⟩⟩
                · rw [HNX.out, areaW_snoc]
                · by_cases e : j = i
                  · subst e; rw [HOK.out, K1.out, K2.out, K3.out, HK4.out, decide_eq_true HC9.out]; rfl
                  · exact HO.out j (by omega)
          · have z3 : decide (0 ≤ cc) = true := by simp; omega
            have hq : q = false := by rw [← HQ.out]; exact HF.out (by rw [HOK.out, HK4.out, decide_eq_false hc0]; simp)
            subst hq
            clear hc0
            refine wp_region_gr (by kernel_rfl) (by kernel_rfl) ?_
            repeat (go_big_quiet_step (first | (go_at_call 53; refine Calls.gr_of (HCP.out _))))
            refine wpQuiet_nil ?_
            intro W2 hw'
            obtain ⟨⟨V2, hB2⟩, hw''⟩ := hw'
            replace hw'' : W2 = V2 := hw''
            subst hw''
            go_wp2
            go_ret
            exact ⟨rfl, XF.out.1.trans (hB2.mono XF.out.1.size)⟩
      · have hltz : decide ((i : Int) < (l0_2.length : Int)) = false := by simp; omega
        have hil : l0_2.take i = l0_2 := List.take_of_length_le (by omega)
        have hall : (List.range l0_2.length).all (okAt a0_0 a0_1 l0_2) = true := by
          rw [List.all_eq_true]; exact fun j hj => HO.out j (by have := List.mem_range.1 hj; omega)
        have hq : (areaW l0_2 0 == wrap64 (a0_0 * a0_1)) = q := by
          rw [← HQ.out]; unfold isCutB; rw [B123.out.1, B123.out.2.1, B123.out.2.2, hall]; simp; rfl
        rw [hil]
        have HE := Aside0.mk hq
        clear hil hall hq
        generalize areaW l0_2 0 = ar at HE ⊢
        go_wp2
        go_ret
        refine ⟨?_, HBw.out⟩
        rw [← HE.out]
        rfl
end Go.Proofs.Ytnfiejagokefcaa.P

namespace Go.Proofs.Ytnfiejagokefcaa.T
open Go.Sort
variable {α : Type} [Inhabited α]
variable {lt : α → α → Bool}
end Go.Proofs.Ytnfiejagokefcaa.T

namespace Go.Proofs.Ytnfiejagokefcaa.Sk
set_option linter.unusedVariables false
set_option linter.unusedSimpArgs false
set_option linter.unusedSectionVars false
open Go Go.RowKit Go.Sort Go.Proofs Go.Proofs.Ytnfiejagokefcaa.P Go.Proofs.Ytnfiejagokefcaa.T Go.Proofs.YtnfiejagokefcaaW.PrintWords Go.Proofs.YtnfiejagokefcaaW.PrintLast Go.Proofs.YtnfiejagokefcaaW.PrintMore
theorem sk_put {B : Nat} {w w1 : World} (h : Below B w w1) {p : Addr} (hp : B ≤ p.block) (u : Value) : Below B w (w1.setCell p u) :=
  ⟨h.os, h.tape, h.output, by simpa [World.setCell] using h.size, fun k hk => (Below.heap_setCell w1 p u k (by omega)).trans (h.block k hk)⟩
def encQ (q : Sq) : List Value := [.int .i64 q.f0, .int .i64 q.f1, .int .i64 q.f2]
variable {α : Type} [Inhabited α] {val : α → Sq} {base g cap : Nat} {w0 W W1 : World} {d : Array α}
structure SB (val : α → Sq) (base : Nat) (w0 : World) (g cap : Nat) (d : Array α) (W : World) : Prop where
  row : Kd.R k61 61 W base (fun k => k = g) (.slice (some ⟨g, 0, none⟩) d.size cap) (d.toList.map val)
  kept : Kept w0 W (fun k => k = g)
  be : Below base w0 W
theorem SB.ge (h : SB val base w0 g cap d W) : base ≤ g := Kd.R_base h.row g rfl
theorem SB.lt (h : SB val base w0 g cap d W) : g < W.heap.size := Kd.R_lt h.row g rfl
theorem SB.below (h : SB val base w0 g cap d W) (hb : Below W.heap.size W W1) : SB val base w0 g cap d W1 :=
  ⟨Kd.R_below h.row hb, h.kept.below hb, h.be.trans (hb.mono (Nat.le_of_lt (Nat.lt_of_le_of_lt h.ge h.lt)))⟩
theorem SB.drew (h : SB val base w0 g cap d W) : SB val base w0 g cap d W.drew := h.below (below_drew (Below.refl _ _))
theorem getD_val (d : Array α) (i : Nat) (hi : i < d.size) (z : Sq) : (d.toList.map val).getD i z = val d[i]! := by
  rw [List.getD_eq_getElem?_getD, List.getElem?_map, List.getElem?_eq_getElem (by simpa using hi)]
  simp [hi]
theorem SB.cells (h : SB val base w0 g cap d W) {i : Nat} (hi : i < d.size) :
    (W.cell? ⟨g, i * 3, none⟩ = some (.int .i64 (val d[i]!).f0) ∧ W.cell? ⟨g, i * 3 + 1, none⟩ = some (.int .i64 (val d[i]!).f1) ∧ W.cell? ⟨g, i * 3 + 2, none⟩ = some (.int .i64 (val d[i]!).f2)) ∧
    (W.frozen? ⟨g, i * 3, none⟩ = false ∧ W.frozen? ⟨g, i * 3 + 1, none⟩ = false ∧ W.frozen? ⟨g, i * 3 + 2, none⟩ = false) := by
  obtain ⟨c, hcl, hM, hcc, hfr⟩ := Kd.R_elem h.row (⟨0, 0, 0⟩ : Sq) (i : Int) (by omega) (by omega)
  obtain rfl := k61_openM hM
  simp only [Int.toNat_natCast, getD_val d i hi] at hcc hfr
  exact ⟨⟨hcc 0 _ rfl, hcc 1 _ rfl, hcc 2 _ rfl⟩, hfr 0, hfr 1, hfr 2⟩
theorem map_set (d : Array α) (i : Nat) (x : α) : (d.setIfInBounds i x).toList.map val = (d.toList.map val).set i (val x) := by
  rw [Array.toList_setIfInBounds, List.map_set]
theorem SB.set (h : SB val base w0 g cap d W) {i : Nat} (hi : i < d.size) (x : α) : SB val base w0 g cap (d.setIfInBounds i x) (W.setCells g (i * 3) (encQ (val x))) := by
  obtain ⟨c, hcl, hM, hcc, hfr⟩ := Kd.R_elem h.row (⟨0, 0, 0⟩ : Sq) (i : Int) (by omega) (by omega)
  have hc3 : c.length = 3 := hcl
  have hs := Kd.R_seg h.row (i : Int) (by omega) (by omega) (c := c) (seg := encQ (val x)) (j := 0) hcl hcc (show 3 ≤ 3 by omega) (x' := val x) (okp := fun _ => False) (by
    have e : c.take 0 ++ encQ (val x) ++ c.drop (0 + (encQ (val x)).length) = encQ (val x) := by
      rw [List.take_zero, List.nil_append, List.drop_of_length_le (by rw [hc3]; show 3 ≤ 0 + 3; omega), List.append_nil]
    rw [e]
    exact k61_mkM _ _ _ _) (fun _ h => h.elim)
  have hw : W.setCells g ((i : Int).toNat * (k61).sz + 0) (encQ (val x)) = W.setCells g (i * 3) (encQ (val x)) := by rw [Int.toNat_natCast]; rfl
  rw [hw, Int.toNat_natCast] at hs
  refine ⟨?_, Kept.of_grown hs.2 h.kept (fun k e => .inl (by injection e with e; exact e.symm)), ?_⟩
  · rw [map_set, Array.size_setIfInBounds]; exact hs.1
  · have hge := h.ge
    exact sk_put (sk_put (sk_put h.be hge _) hge _) hge _
theorem SB.swap (h : SB val base w0 g cap d W) {i j : Nat} (hi : i < d.size) (hj : j < d.size) :
    SB val base w0 g cap (swp d i j) ((W.setCells g (i * 3) (encQ (val d[j]!))).setCells g (j * 3) (encQ (val d[i]!))) :=
  (h.set hi d[j]!).set (by rw [Array.size_setIfInBounds]; exact hj) d[i]!
def ltC (cf : α → α → Int) (x y : α) : Bool := decide (cf x y < 0)
end Go.Proofs.Ytnfiejagokefcaa.Sk

namespace Go.Proofs.Ytnfiejagokefcaa.T
def Sq.has (q : Sq) (a b : Int) : Prop := q.f0 ≤ a ∧ a < q.f0 + q.f2 ∧ q.f1 ≤ b ∧ b < q.f1 + q.f2
instance (q : Sq) (a b : Int) : Decidable (q.has a b) := by unfold Sq.has; infer_instance
def sumTo (f : Nat → Nat) : Nat → Nat
  | 0 => 0
  | n + 1 => sumTo f n + f n
theorem sumTo_le {f g : Nat → Nat} : ∀ n, (∀ i, i < n → f i ≤ g i) → sumTo f n ≤ sumTo g n
  | 0, _ => Nat.le_refl _
  | n + 1, h => by
    have h1 := sumTo_le n (fun i hi => h i (by omega))
    have h2 := h n (by omega)
    simp only [sumTo]; omega
theorem sumTo_congr {f g : Nat → Nat} : ∀ n, (∀ i, i < n → f i = g i) → sumTo f n = sumTo g n
  | 0, _ => rfl
  | n + 1, h => by
    have h1 := sumTo_congr n (fun i hi => h i (by omega))
    have h2 := h n (by omega)
    simp only [sumTo]; omega
theorem sumTo_add (f g : Nat → Nat) : ∀ n, sumTo (fun i => f i + g i) n = sumTo f n + sumTo g n
  | 0 => rfl
  | n + 1 => by have := sumTo_add f g n; simp only [sumTo]; omega
theorem sumTo_zero : ∀ n, sumTo (fun _ => 0) n = 0
  | 0 => rfl
  | n + 1 => by simp only [sumTo, sumTo_zero n]
theorem sumTo_const (c : Nat) : ∀ n, sumTo (fun _ => c) n = n * c
  | 0 => by simp [sumTo]
  | n + 1 => by simp only [sumTo, sumTo_const c n, Nat.add_mul, Nat.one_mul]
theorem sumTo_tight {f g : Nat → Nat} : ∀ n, (∀ i, i < n → f i ≤ g i) → sumTo f n = sumTo g n → ∀ i, i < n → f i = g i
  | 0, _, _, i, hi => by omega
  | n + 1, h, he, i, hi => by
    have h1 := sumTo_le n (fun i hi => h i (by omega))
    have h2 := h n (by omega)
    simp only [sumTo] at he
    by_cases e : i = n
    · subst e; omega
    · exact sumTo_tight n (fun i hi => h i (by omega)) (by omega) i (by omega)
theorem sumTo_ind (a s : Nat) : ∀ n, a + s ≤ n → sumTo (fun i => if a ≤ i ∧ i < a + s then 1 else 0) n = s
  | 0, h => by simp only [sumTo]; omega
  | n + 1, h => by
    simp only [sumTo]
    by_cases e : a + s = n + 1
    · by_cases hs : s = 0
      · have : ∀ m, m ≤ n → sumTo (fun i => if a ≤ i ∧ i < a + s then 1 else 0) m = 0 := by
          intro m hm
          rw [sumTo_congr (g := fun _ => 0) m (fun i hi => if_neg (by omega)), sumTo_zero]
        rw [this n (Nat.le_refl _), if_neg (by omega)]; omega
      · rw [if_pos (by omega)]
        have h2 := sumTo_ind a (s - 1) n (by omega)
        rw [sumTo_congr (g := fun i => if a ≤ i ∧ i < a + (s - 1) then 1 else 0) n (fun i hi => by
          by_cases c : a ≤ i ∧ i < a + (s - 1)
          · rw [if_pos c, if_pos (by omega)]
          · rw [if_neg c, if_neg (by omega)])]
        omega
    · rw [if_neg (by omega), sumTo_ind a s n (by omega), Nat.add_zero]
theorem sumTo_mul (c : Nat) (f : Nat → Nat) : ∀ n, sumTo (fun i => f i * c) n = sumTo f n * c
  | 0 => by simp [sumTo]
  | n + 1 => by simp only [sumTo, sumTo_mul c f n, Nat.add_mul]
def covers (T : List Sq) (a b : Int) : Nat := T.countP (fun q => decide (q.has a b))
def area : List Sq → Int
  | [] => 0
  | q :: T => q.f2 * q.f2 + area T
theorem area_append (A B : List Sq) : area (A ++ B) = area A + area B := by
  induction A with
  | nil => simp [area]
  | cons q A ih => simp only [List.cons_append, area, ih]; omega
def grid (T : List Sq) (w h : Nat) : Nat := sumTo (fun a => sumTo (fun b => covers T a b) h) w
def inBox (w h : Int) (q : Sq) : Prop := 1 ≤ q.f2 ∧ 0 ≤ q.f0 ∧ q.f0 + q.f2 ≤ w ∧ 0 ≤ q.f1 ∧ q.f1 + q.f2 ≤ h
theorem grid_one (w h : Nat) (q : Sq) (hq : inBox w h q) : ((grid [q] w h : Nat) : Int) = q.f2 * q.f2 := by
  obtain ⟨x, y, s⟩ := q
  obtain ⟨h1, h2, h3, h4, h5⟩ := hq
  simp only at h1 h2 h3 h4 h5
  obtain ⟨x, rfl⟩ := Int.eq_ofNat_of_zero_le h2
  obtain ⟨y, rfl⟩ := Int.eq_ofNat_of_zero_le h4
  obtain ⟨s, rfl⟩ := Int.eq_ofNat_of_zero_le (show 0 ≤ s by omega)
  have : grid [(⟨x, y, s⟩ : Sq)] w h = s * s := by
    unfold grid
    rw [sumTo_congr (g := fun a => (if x ≤ a ∧ a < x + s then 1 else 0) * s) w]
    · rw [sumTo_mul, sumTo_ind x s w (by omega)]
    · intro a ha
      by_cases c : x ≤ a ∧ a < x + s
      · rw [if_pos c, Nat.one_mul]
        rw [sumTo_congr (g := fun b => if y ≤ b ∧ b < y + s then 1 else 0) h]
        · exact sumTo_ind y s h (by omega)
        · intro b hb
          simp only [covers, List.countP_cons, List.countP_nil, Sq.has, Nat.zero_add]
          by_cases d : y ≤ b ∧ b < y + s
          · rw [if_pos d, if_pos]; simp; omega
          · rw [if_neg d, if_neg]; simp; omega
      · rw [if_neg c, Nat.zero_mul]
        rw [sumTo_congr (g := fun _ => 0) h, sumTo_zero]
        intro b hb
        simp only [covers, List.countP_cons, List.countP_nil, Sq.has, Nat.zero_add]
        rw [if_neg]; simp; omega
  rw [this]; simp
theorem grid_area (w h : Nat) : ∀ T : List Sq, (∀ q ∈ T, inBox w h q) → ((grid T w h : Nat) : Int) = area T
  | [], _ => by
    simp only [grid, covers, List.countP_nil, area]
    rw [sumTo_congr (g := fun _ => 0) w (fun _ _ => sumTo_zero _), sumTo_zero]; rfl
  | q :: T, hT => by
    have h1 := grid_area w h T (fun q hq => hT q (List.mem_cons_of_mem _ hq))
    have h2 := grid_one w h q (hT q List.mem_cons_self)
    have : grid (q :: T) w h = grid [q] w h + grid T w h := by
      unfold grid
      rw [← sumTo_add]
      refine sumTo_congr _ (fun a _ => ?_)
      rw [← sumTo_add]
      refine sumTo_congr _ (fun b _ => ?_)
      simp only [covers, List.countP_cons, List.countP_nil]; omega
    rw [this]; simp only [area]; omega
def Apart (p q : Sq) : Prop := ¬ (p.f0 < q.f0 + q.f2 ∧ q.f0 < p.f0 + p.f2 ∧ p.f1 < q.f1 + q.f2 ∧ q.f1 < p.f1 + p.f2)
theorem Apart.symm {p q : Sq} (h : Apart p q) : Apart q p := by unfold Apart at *; omega
theorem covers_le (T : List Sq) (hT : T.Pairwise Apart) (hs : ∀ q ∈ T, 1 ≤ q.f2) (a b : Int) : covers T a b ≤ 1 := by
  induction T with
  | nil => simp [covers]
  | cons q T ih =>
    rw [List.pairwise_cons] at hT
    have := ih hT.2 (fun q hq => hs q (List.mem_cons_of_mem _ hq))
    unfold covers at *
    rw [List.countP_cons]
    by_cases c : q.has a b
    · have : T.countP (fun q => decide (q.has a b)) = 0 := by
        rw [List.countP_eq_zero]
        intro p hp hp2
        have hd := hT.1 p hp
        have hp2 : p.has a b := by simpa using hp2
        unfold Apart at hd; unfold Sq.has at c hp2
        omega
      rw [this]; split <;> omega
    · rw [if_neg (by simpa using c)]; omega
theorem covered (w h : Nat) (T : List Sq) (hb : ∀ q ∈ T, inBox w h q) (hd : T.Pairwise Apart) (ha : area T = w * h) (a b : Int) (h0 : 0 ≤ a) (h1 : a < w) (h2 : 0 ≤ b) (h3 : b < h) :
    ∃ q ∈ T, q.has a b := by
  obtain ⟨a, rfl⟩ := Int.eq_ofNat_of_zero_le h0
  obtain ⟨b, rfl⟩ := Int.eq_ofNat_of_zero_le h2
  have hle : ∀ a b : Nat, covers T a b ≤ 1 := fun a b => covers_le T hd (fun q hq => (hb q hq).1) a b
  have hg := grid_area w h T hb
  have hg2 : grid T w h = sumTo (fun _ => sumTo (fun _ => 1) h) w := by
    rw [sumTo_const, sumTo_const, Nat.mul_one]
    have : ((w * h : Nat) : Int) = w * h := by simp
    omega
  have t1 := sumTo_tight w (fun a _ => sumTo_le h (fun b _ => hle a b)) hg2 a (by omega)
  have t2 := sumTo_tight h (fun b _ => hle a b) t1 b (by omega)
  have : 0 < covers T a b := by omega
  unfold covers at this
  rw [List.countP_pos_iff] at this
  obtain ⟨q, hq, hp⟩ := this
  exact ⟨q, hq, by simpa using hp⟩
theorem area_of_covered (w h : Nat) (T : List Sq) (hb : ∀ q ∈ T, inBox w h q) (hd : T.Pairwise Apart) (hc : ∀ a b : Int, 0 ≤ a → a < w → 0 ≤ b → b < h → ∃ q ∈ T, q.has a b) : area T = w * h := by
  rw [← grid_area w h T hb]
  have : grid T w h = w * h := by
    unfold grid
    rw [sumTo_congr (g := fun _ => h) w, sumTo_const]
    intro a ha
    rw [sumTo_congr (g := fun _ => 1) h, sumTo_const, Nat.mul_one]
    intro b hb'
    have h1 := covers_le T hd (fun q hq => (hb q hq).1) a b
    obtain ⟨q, hq, hp⟩ := hc a b (by omega) (by omega) (by omega) (by omega)
    have : 0 < covers T a b := by unfold covers; rw [List.countP_pos_iff]; exact ⟨q, hq, by simpa using hp⟩
    omega
  rw [this]; simp
end Go.Proofs.Ytnfiejagokefcaa.T

namespace Go.Proofs.Ytnfiejagokefcaa.T
def ht (f : List Int) (c : Nat) : Int := f.getD c 0
def run (f : List Int) (y : Int) : Nat := match f with | [] => 0 | z :: f => if z = y then run f y + 1 else 0
def Lt (p q : Sq) : Prop := p.f1 < q.f1 ∨ p.f1 = q.f1 ∧ p.f0 < q.f0
end Go.Proofs.Ytnfiejagokefcaa.T

namespace Go.Proofs.Ytnfiejagokefcaa.T
def nq (l : List Sq) (i : Nat) : Sq := l.getD i ⟨0, 0, 0⟩
theorem nq_get (l : List Sq) (i : Nat) (h : i < l.length) : nq l i = l[i] := by simp [nq, h]
theorem nq_mem (l : List Sq) (i : Nat) (h : i < l.length) : nq l i ∈ l := by rw [nq_get l i h]; exact List.getElem_mem h
theorem nq_take (l : List Sq) (n i : Nat) (h : i < n) : nq (l.take n) i = nq l i := by
  unfold nq
  rw [List.getD_eq_getElem?_getD, List.getD_eq_getElem?_getD, List.getElem?_take_of_lt h]
structure Good (W H : Int) (l : List Sq) : Prop where
  w : 1 ≤ W ∧ W ≤ 500
  h : 1 ≤ H ∧ H ≤ 500
  len : l.length ≤ 30
  box : ∀ q ∈ l, inBox W H q
  apart : l.Pairwise Apart
  lt : l.Pairwise Lt
  area : area l = W * H
def OkS (W H : Int) (l : List Sq) (i : Nat) : Prop := inBox W H (nq l i) ∧ ∀ j, j < i → Apart (nq l i) (nq l j) ∧ (j + 1 = i → Lt (nq l j) (nq l i))
theorem Lt.trans {a b c : Sq} (h : Lt a b) (k : Lt b c) : Lt a c := by unfold Lt at *; omega
theorem Lt.irrefl (a : Sq) : ¬ Lt a a := by unfold Lt; omega
theorem Lt.asymm {a b : Sq} (h : Lt a b) : ¬ Lt b a := by unfold Lt at *; omega
theorem lt_chain (l : List Sq) (n : Nat) (h : ∀ i, i + 1 < n → Lt (nq l i) (nq l (i + 1))) : ∀ d i, i + d + 1 < n → Lt (nq l i) (nq l (i + d + 1))
  | 0, i, hi => h i hi
  | d + 1, i, hi => (lt_chain l n h d i (by omega)).trans (h (i + d + 1) (by omega))
theorem good_iff (W H : Int) (l : List Sq) : Good W H l ↔ (1 ≤ W ∧ W ≤ 500) ∧ (1 ≤ H ∧ H ≤ 500) ∧ l.length ≤ 30 ∧ (∀ i, i < l.length → OkS W H l i) ∧ area l = W * H := by
  constructor
  · rintro ⟨hw, hh, hl, hb, ha, ht, har⟩
    rw [List.pairwise_iff_getElem] at ha ht
    refine ⟨hw, hh, hl, fun i hi => ⟨hb _ (nq_mem l i hi), fun j hj => ?_⟩, har⟩
    have h1 := ha j i (by omega) hi hj
    have h2 := ht j i (by omega) hi hj
    rw [← nq_get, ← nq_get] at h1 h2
    exact ⟨h1.symm, fun _ => h2⟩
  · rintro ⟨hw, hh, hl, hs, har⟩
    refine ⟨hw, hh, hl, fun q hq => ?_, ?_, ?_, har⟩
    · obtain ⟨i, hi, rfl⟩ := List.getElem_of_mem hq
      rw [← nq_get]
      exact (hs i hi).1
    · rw [List.pairwise_iff_getElem]
      intro i j hi hj hij
      rw [← nq_get l i hi, ← nq_get l j hj]
      exact (((hs j hj).2 i hij).1).symm
    · rw [List.pairwise_iff_getElem]
      intro i j hi hj hij
      rw [← nq_get l i hi, ← nq_get l j hj]
      have := lt_chain l l.length (fun i hi => ((hs (i + 1) hi).2 i (by omega)).2 rfl) (j - i - 1) i (by omega)
      rwa [show i + (j - i - 1) + 1 = j by omega] at this
open Classical in
noncomputable def goodB (W H : Int) (l : List Sq) : Bool := decide (Good W H l)
theorem goodB_iff {W H : Int} {l : List Sq} : goodB W H l = true ↔ Good W H l := by unfold goodB; simp
theorem Good.pos {W H : Int} {l : List Sq} (g : Good W H l) : 1 ≤ l.length := by
  rcases Nat.eq_zero_or_pos l.length with h | h
  · have : l = [] := List.eq_nil_of_length_eq_zero h
    have ha := g.area
    have := g.w; have := g.h
    have : 1 ≤ W * H := by
      have : (1 : Int) * 1 ≤ W * H := Int.mul_le_mul (by omega) (by omega) (by omega) (by omega)
      omega
    subst l
    simp [T.area] at ha
    omega
  · exact h
theorem area_take (l : List Sq) (i : Nat) (h : i < l.length) : area (l.take (i + 1)) = area (l.take i) + (nq l i).f2 * (nq l i).f2 := by
  rw [List.take_succ_eq_append_getElem h, area_append, nq_get l i h]
  simp [area]
theorem sq_le {a m : Int} (h0 : 0 ≤ a) (h1 : a ≤ m) : 0 ≤ a * a ∧ a * a ≤ m * m := ⟨Int.mul_nonneg h0 h0, Int.mul_le_mul h1 h1 h0 (by omega)⟩
theorem area_bd (l : List Sq) (m : Int) : ∀ n : Nat, n ≤ l.length → (∀ i, i < n → 0 ≤ (nq l i).f2 ∧ (nq l i).f2 ≤ m) → 0 ≤ area (l.take n) ∧ area (l.take n) ≤ n * (m * m)
  | 0, _, _ => by simp [area]
  | n + 1, hn, hb => by
    have ih := area_bd l m n (by omega) (fun i hi => hb i (by omega))
    have hq := hb n (by omega)
    have hs := sq_le hq.1 hq.2
    rw [area_take l n (by omega), show ((n + 1 : Nat) : Int) * (m * m) = n * (m * m) + m * m by rw [Int.natCast_succ, Int.add_mul, Int.one_mul]]
    omega
end Go.Proofs.Ytnfiejagokefcaa.T

namespace Go.Proofs.Ytnfiejagokefcaa.T
section
variable {α : Type} (lt : α → α → Bool) (z : α)
def insK (s : α) (out : List α) : Nat → Nat
  | 0 => 0
  | k + 1 => if lt s (out.getD k z) = true then insK s out k else k + 1
def insG (s : α) (out : List α) : List α := out.take (insK lt z s out out.length) ++ s :: out.drop (insK lt z s out out.length)
def srtF (o l : List α) : List α := l.foldl (fun o s => insG lt z s o) o
def srtG (l : List α) : List α := srtF lt z [] l
theorem insK_le (s : α) (out : List α) : ∀ k, insK lt z s out k ≤ k
  | 0 => Nat.le_refl _
  | k + 1 => by
    simp only [insK]
    split
    · have := insK_le s out k; omega
    · omega
theorem insK_above (s : α) (out : List α) : ∀ k j, insK lt z s out k ≤ j → j < k → lt s (out.getD j z) = true
  | 0, j, _, h => by omega
  | k + 1, j, h1, h2 => by
    simp only [insK] at h1
    split at h1
    · rename_i c
      by_cases e : j = k
      · subst e; exact c
      · exact insK_above s out k j h1 (by omega)
    · omega
theorem insK_at (s : α) (out : List α) : ∀ k, insK lt z s out k = 0 ∨ lt s (out.getD (insK lt z s out k - 1) z) = false
  | 0 => .inl rfl
  | k + 1 => by
    simp only [insK]
    split
    · exact insK_at s out k
    · rename_i c
      exact .inr (by simpa using c)
theorem insG_perm (s : α) (out : List α) : (insG lt z s out).Perm (s :: out) := by
  unfold insG
  refine List.perm_middle.trans ?_
  rw [List.take_append_drop]
theorem srtF_perm : ∀ (l o : List α), (srtF lt z o l).Perm (o ++ l)
  | [], o => by simp [srtF]
  | s :: l, o => by
    refine (srtF_perm l (insG lt z s o)).trans ?_
    refine ((insG_perm lt z s o).append_right l).trans ?_
    exact List.perm_middle.symm
theorem srtG_perm (l : List α) : (srtG lt z l).Perm l := by have := srtF_perm lt z l []; rwa [List.nil_append] at this
def Up (l : List α) : Prop := l.Pairwise (fun a b => lt b a = false)
variable {lt}
theorem Up.ins (hA : ∀ a b, lt a b = true → lt b a = false) (hN : ∀ a b c, lt a b = false → lt b c = false → lt a c = false) {s : α} {out : List α} (h : Up lt out) : Up lt (insG lt z s out) := by
  unfold insG Up at *
  generalize hk : insK lt z s out out.length = k
  have hle := insK_le lt z s out out.length
  have hab := insK_above lt z s out out.length
  have hat := insK_at lt z s out out.length
  rw [hk] at hle hab hat
  rw [List.pairwise_append, List.pairwise_cons]
  refine ⟨h.take, ⟨fun b hb => ?_, h.drop⟩, fun a ha b hb => ?_⟩
  · obtain ⟨j, hj, rfl⟩ := List.getElem_of_mem hb
    rw [List.length_drop] at hj
    rw [List.getElem_drop]
    have := hab (k + j) (by omega) (by omega)
    rw [List.getD_eq_getElem?_getD, List.getElem?_eq_getElem (by omega)] at this
    exact hA _ _ this
  · obtain ⟨i, hi, rfl⟩ := List.getElem_of_mem ha
    rw [List.length_take] at hi
    rw [List.getElem_take]
    rcases List.mem_cons.1 hb with rfl | hb
    · rcases hat with h0 | h0
      · omega
      · rw [List.getD_eq_getElem?_getD, List.getElem?_eq_getElem (by omega)] at h0
        simp only [Option.getD_some] at h0
        by_cases e : i = k - 1
        · subst e; exact h0
        · exact hN _ _ _ h0 (List.pairwise_iff_getElem.1 h i (k - 1) (by omega) (by omega) (by omega))
    · obtain ⟨j, hj, rfl⟩ := List.getElem_of_mem hb
      rw [List.length_drop] at hj
      rw [List.getElem_drop]
      exact List.pairwise_iff_getElem.1 h i (k + j) (by omega) (by omega) (by omega)
theorem srtF_up (hA : ∀ a b, lt a b = true → lt b a = false) (hN : ∀ a b c, lt a b = false → lt b c = false → lt a c = false) : ∀ (l o : List α), Up lt o → Up lt (srtF lt z o l)
  | [], _, h => h
  | s :: l, o, h => srtF_up hA hN l (insG lt z s o) (h.ins z hA hN)
theorem srtG_up (hA : ∀ a b, lt a b = true → lt b a = false) (hN : ∀ a b c, lt a b = false → lt b c = false → lt a c = false) (l : List α) : Up lt (srtG lt z l) := srtF_up z hA hN l [] List.Pairwise.nil
theorem up_unique : ∀ {A B : List α}, A.Perm B → A.Pairwise (fun a b => lt a b = true) → Up lt B → A = B
  | [], B, hp, _, _ => (List.nil_perm.1 hp).symm
  | a :: A, [], hp, _, _ => (List.perm_nil.1 hp)
  | a :: A, b :: B, hp, hA, hB => by
    have h1 := List.pairwise_cons.1 hA
    have h2 := List.pairwise_cons.1 hB
    have ha : a ∈ b :: B := hp.mem_iff.1 List.mem_cons_self
    have hb : b ∈ a :: A := hp.mem_iff.2 List.mem_cons_self
    have e : a = b := by
      rcases List.mem_cons.1 ha with e | ha
      · exact e
      · rcases List.mem_cons.1 hb with e | hb
        · exact e.symm
        · have := h1.1 b hb
          rw [h2.1 a ha] at this; cases this
    subst e
    rw [up_unique (List.Perm.cons_inv hp) h1.2 h2.2]
theorem srtG_eq (hA : ∀ a b, lt a b = true → lt b a = false) (hN : ∀ a b c, lt a b = false → lt b c = false → lt a c = false) {l A : List α} (hp : A.Perm l) (h : A.Pairwise (fun a b => lt a b = true)) : srtG lt z l = A :=
  (up_unique (hp.trans (srtG_perm lt z l).symm) h (srtG_up z hA hN l)).symm
end
def ltb (a b : Sq) : Bool := decide (a.f1 < b.f1) || (decide (a.f1 = b.f1) && decide (a.f0 < b.f0))
theorem ltb_iff {a b : Sq} : ltb a b = true ↔ Lt a b := by unfold ltb Lt; simp
theorem ltb_not {a b : Sq} : ltb a b = false ↔ ¬ Lt a b := by rw [← ltb_iff]; simp
theorem ltb_asymm (a b : Sq) (h : ltb a b = true) : ltb b a = false := by rw [ltb_iff] at h; rw [ltb_not]; exact h.asymm
theorem ltb_ntrans (a b c : Sq) (h : ltb a b = false) (k : ltb b c = false) : ltb a c = false := by rw [ltb_not] at *; unfold Lt at *; omega
def srt (l : List Sq) : List Sq := srtG ltb ⟨0, 0, 0⟩ l
theorem srt_perm (l : List Sq) : (srt l).Perm l := srtG_perm _ _ l
theorem srt_up (l : List Sq) : Up ltb (srt l) := srtG_up _ ltb_asymm ltb_ntrans l
theorem srt_eq {l A : List Sq} (hp : A.Perm l) (h : A.Pairwise Lt) : srt l = A := srtG_eq _ ltb_asymm ltb_ntrans hp (h.imp (fun h => ltb_iff.2 h))
structure Fill (W H : Int) (l : List Sq) : Prop where
  box : ∀ q ∈ l, inBox W H q
  apart : l.Pairwise Apart
  area : area l = W * H
theorem area_perm {A B : List Sq} (h : A.Perm B) : area A = area B := by
  induction h with
  | nil => rfl
  | cons _ _ ih => simp only [T.area, ih]
  | swap _ _ _ => simp only [T.area]; omega
  | trans _ _ ih1 ih2 => exact ih1.trans ih2
theorem Fill.perm {W H : Int} {A B : List Sq} (h : Fill W H A) (hp : A.Perm B) : Fill W H B :=
  ⟨fun q hq => h.box q (hp.mem_iff.2 hq), hp.pairwise h.apart (fun h => h.symm), (area_perm hp).symm.trans h.area⟩
theorem apart_place {W H : Int} {a b : Sq} (ha : inBox W H a) (hb : inBox W H b) (h : Apart a b) : ¬ (a.f1 = b.f1 ∧ a.f0 = b.f0) := by
  unfold inBox at *; unfold Apart at h; omega
theorem Fill.lt {W H : Int} {l : List Sq} (h : Fill W H l) (hu : Up ltb l) : l.Pairwise Lt := by
  refine List.Pairwise.imp_of_mem ?_ (List.Pairwise.and hu h.apart)
  intro a b ha hb hab
  have h1 := apart_place (h.box a ha) (h.box b hb) hab.2
  have h2 := ltb_not.1 hab.1
  unfold Lt at *; omega
theorem Good.fill {W H : Int} {l : List Sq} (g : Good W H l) : Fill W H l := ⟨g.box, g.apart, g.area⟩
theorem Fill.good {W H : Int} {l : List Sq} (h : Fill W H l) (hw : 1 ≤ W ∧ W ≤ 500) (hh : 1 ≤ H ∧ H ≤ 500) (hl : l.length ≤ 30) : Good W H (srt l) := by
  have f := h.perm (srt_perm l).symm
  exact ⟨hw, hh, by rw [(srt_perm l).length_eq]; exact hl, f.box, f.apart, f.lt (srt_up l), f.area⟩
structure Til (W H : Int) (l : List Sq) : Prop where
  fill : Fill W H l
  lt : l.Pairwise Lt
theorem Good.til {W H : Int} {l : List Sq} (g : Good W H l) : Til W H l := ⟨g.fill, g.lt⟩
theorem Fill.til {W H : Int} {l : List Sq} (h : Fill W H l) : Til W H (srt l) := by
  have f := h.perm (srt_perm l).symm
  exact ⟨f, f.lt (srt_up l)⟩
theorem Til.good {W H : Int} {l : List Sq} (h : Til W H l) (hw : 1 ≤ W ∧ W ≤ 500) (hh : 1 ≤ H ∧ H ≤ 500) (hl : l.length ≤ 30) : Good W H l := ⟨hw, hh, hl, h.fill.box, h.fill.apart, h.lt, h.fill.area⟩
def turnS (H : Int) (s : Sq) : Sq := ⟨H - s.f1 - s.f2, s.f0, s.f2⟩
theorem area_map {g : Sq → Sq} (hg : ∀ s, (g s).f2 = s.f2) : ∀ l : List Sq, area (l.map g) = area l
  | [] => rfl
  | q :: l => by simp only [List.map_cons, T.area, hg, area_map hg l]
theorem Fill.turn {W H : Int} {l : List Sq} (h : Fill W H l) : Fill H W (l.map (turnS H)) := by
  refine ⟨fun q hq => ?_, ?_, ?_⟩
  · obtain ⟨s, hs, rfl⟩ := List.mem_map.1 hq
    have := h.box s hs
    unfold inBox turnS at *; simp only; omega
  · rw [List.pairwise_map]
    refine h.apart.imp ?_
    intro a b hab
    unfold Apart turnS at *; simp only; omega
  · rw [area_map (g := turnS H) (fun _ => rfl), h.area, Int.mul_comm]
def turnL (H : Int) (l : List Sq) : List Sq := srt (l.map (turnS H))
theorem Good.turn {W H : Int} {l : List Sq} (g : Good W H l) : Good H W (turnL H l) := g.fill.turn.good g.h g.w (by rw [List.length_map]; exact g.len)
theorem Til.turn {W H : Int} {l : List Sq} (g : Til W H l) : Til H W (turnL H l) := g.fill.turn.til
theorem turnL_perm (H : Int) (l : List Sq) : (turnL H l).Perm (l.map (turnS H)) := srt_perm _
def backS (W : Int) (s : Sq) : Sq := ⟨s.f1, W - s.f0 - s.f2, s.f2⟩
def backL (W : Int) (l : List Sq) : List Sq := srt (l.map (backS W))
theorem turn3 {W H : Int} {l : List Sq} (g : Til W H l) : turnL H (turnL W (turnL H l)) = backL W l := by
  have g3 := g.turn.turn.turn
  have hp : (turnL H (turnL W (turnL H l))).Perm (l.map (backS W)) := by
    refine (turnL_perm _ _).trans ?_
    refine ((turnL_perm _ _).map _).trans ?_
    refine (((turnL_perm _ _).map _).map _).trans ?_
    rw [List.map_map, List.map_map]
    refine List.Perm.of_eq (List.map_congr_left (fun s _ => ?_))
    simp only [Function.comp, turnS, backS]
    congr 1; omega
  exact (srt_eq hp g3.lt).symm
theorem Good.back {W H : Int} {l : List Sq} (g : Good W H l) : Good H W (backL W l) := by rw [← turn3 g.til]; exact g.turn.turn.turn
theorem Til.back {W H : Int} {l : List Sq} (g : Til W H l) : Til H W (backL W l) := by rw [← turn3 g]; exact g.turn.turn.turn
end Go.Proofs.Ytnfiejagokefcaa.T

namespace Go.Proofs.Ytnfiejagokefcaa.Aid
open Go.RowKit Go.Proofs.YtnfiejagokefcaaW.PrintWords Go.Proofs.YtnfiejagokefcaaW.PrintMore
theorem w64 {e : Int} (h0 : -9223372036854775808 ≤ e) (h1 : e ≤ 9223372036854775807) : wrap64 e = e := by unfold wrap64; omega
theorem ev_pos {α : Type} {c : Prop} [Decidable c] {a b : Nat → Option α} {r : α} (h : c) (e : Ev a r) : Ev (fun k => if c then a k else b k) r := by simpa only [if_pos h] using e
theorem ev_neg {α : Type} {c : Prop} [Decidable c] {a b : Nat → Option α} {r : α} (h : ¬ c) (e : Ev b r) : Ev (fun k => if c then a k else b k) r := by simpa only [if_neg h] using e
theorem ev_some {α : Type} {r s : α} (h : s = r) : Ev (fun _ => some s) r := by subst h; exact Ev.now _
theorem ev_bind {α β : Type} {g : Nat → Option α} {f : Nat → α → Option β} {a : α} {r : β} (h : Ev g a) (k : Ev (fun n => f n a) r) : Ev (fun n => (g n).bind (f n)) r := Ev.bind h k
theorem ev_call {α β : Type} {g : Option α} {f : Nat → α → Option β} {a : α} {r : β} (h : g = some a) (k : Ev (fun n => f n a) r) : Ev (fun n => g.bind (f n)) r := by subst h; exact k
theorem ev_at {α : Type} {g : Nat → Option α} {r : α} (h : Ev g r) : ∃ k, g k = some r := Ev.rounds h
theorem mn_min (a b : Int) : mn a b = min a b := by unfold mn; omega
def inR (n lo hi : Int) : Bool := decide (lo ≤ n) && decide (n ≤ hi)
theorem inR_iff {n lo hi : Int} : inR n lo hi = true ↔ lo ≤ n ∧ n ≤ hi := by simp [inR]
end Go.Proofs.Ytnfiejagokefcaa.Aid

namespace Go.Proofs.Ytnfiejagokefcaa.P
set_option linter.unusedVariables false
set_option linter.unusedSimpArgs false
open Go.RowKit Go.Proofs.YtnfiejagokefcaaW.PrintWords Go.Proofs.YtnfiejagokefcaaW.PrintLast Go.Proofs.YtnfiejagokefcaaW.PrintMore Go.Proofs.Ytnfiejagokefcaa.T Go.Proofs.Ytnfiejagokefcaa.Aid Go.Proofs.Ytnfiejagokefcaa.Sk Go.Sort
def okQ (q : Sq) : Bool := decide (-100000000000000000 ≤ q.f0) && decide (q.f0 ≤ 100000000000000000) && decide (-100000000000000000 ≤ q.f1) && decide (q.f1 ≤ 100000000000000000)
theorem okQ_iff {q : Sq} : okQ q = true ↔ ((-100000000000000000 ≤ q.f0 ∧ q.f0 ≤ 100000000000000000) ∧ -100000000000000000 ≤ q.f1) ∧ q.f1 ≤ 100000000000000000 := by
  simp [okQ, and_assoc]
abbrev BSq := { q : Sq // okQ q = true }
instance : Inhabited BSq := ⟨⟨⟨0, 0, 0⟩, by decide⟩⟩
def cfB (x y : BSq) : Int := cmpP x.1 y.1
theorem ltC_b (x y : BSq) : ltC cfB x y = ltb x.1 y.1 := by
  have hx := okQ_iff.1 x.2
  have hy := okQ_iff.1 y.2
  unfold ltC cfB cmpP ltb
  by_cases c : x.1.f1 = y.1.f1
  · rw [if_pos c, w64 (by omega) (by omega), decide_eq_false (show ¬ x.1.f1 < y.1.f1 by omega), decide_eq_true c, Bool.false_or, Bool.true_and]
    exact decide_eq_decide.2 (by omega)
  · rw [if_neg c, w64 (by omega) (by omega), decide_eq_false c, Bool.false_and, Bool.or_false]
    exact decide_eq_decide.2 (by omega)
theorem swo_b : SWO (ltC cfB) where
  irrefl := fun x => by rw [ltC_b, ltb_not]; unfold Lt; omega
  trans := fun x y z h k => by rw [ltC_b, ltb_iff] at *; unfold Lt at *; omega
  ntrans := fun x y z h k => by rw [ltC_b] at *; exact ltb_ntrans _ _ _ h k
theorem lift_b (l : List Sq) (h : ∀ q ∈ l, okQ q = true) : ∃ L : List BSq, L.map (·.1) = l := ⟨l.attach.map (fun x => ⟨x.1, h x.1 x.2⟩), by simp⟩
theorem sorted_list {d d' : Array BSq} (hp : PermIn 0 d.size d d') (hs : SortedIn (ltC cfB) 0 d.size d') : (d'.toList.map (·.1)).Perm (d.toList.map (·.1)) ∧ Up ltb (d'.toList.map (·.1)) := by
  refine ⟨List.Perm.map _ ?_, ?_⟩
  · have h := hp.2.2
    rw [← hp.1] at h
    rw [Array.extract_size] at h
    rw [hp.1, Array.extract_size] at h
    exact h
  · unfold Up
    rw [List.pairwise_map, List.pairwise_iff_getElem]
    intro i j hi hj hij
    have h := hs i j (Nat.zero_le _) hij (by rw [← hp.1]; simpa using hj)
    rw [ltC_b] at h
    have e1 : d'[i]! = d'.toList[i] := by simp at hi; simp [hi]
    have e2 : d'[j]! = d'.toList[j] := by simp at hj; simp [hj]
    rw [e1, e2] at h
    exact h
end Go.Proofs.Ytnfiejagokefcaa.P

namespace Go.Proofs.Ytnfiejagokefcaa.Sk
set_option linter.unusedVariables false
set_option linter.unusedSimpArgs false
set_option linter.unusedSectionVars false
open Go Go.RowKit Go.Sort Go.Proofs Go.Proofs.Ytnfiejagokefcaa.P Go.Proofs.Ytnfiejagokefcaa.T Go.Proofs.YtnfiejagokefcaaW.PrintWords Go.Proofs.YtnfiejagokefcaaW.PrintLast Go.Proofs.YtnfiejagokefcaaW.PrintMore
variable {α : Type} [Inhabited α] {val : α → Sq} {base g cap : Nat} {w0 W W1 : World} {d : Array α}
theorem SB.holds (h : SB val base w0 g cap d W) : HoldsK (fun x => encQ (val x)) 3 W g 0 d := by
  intro t ht
  rw [size_flatK] at ht
  rw [get_flatK _ _ _ _ ht]
  obtain ⟨⟨c0, c1, c2⟩, f0, f1, f2⟩ := h.cells (i := t / 3) (by omega)
  rcases (by omega : t % 3 = 0 ∨ t % 3 = 1 ∨ t % 3 = 2) with e | e | e
  · rw [show 0 + t = t / 3 * 3 from by omega, e]; exact ⟨c0, f0⟩
  · rw [show 0 + t = t / 3 * 3 + 1 from by omega, e]; exact ⟨c1, f1⟩
  · rw [show 0 + t = t / 3 * 3 + 2 from by omega, e]; exact ⟨c2, f2⟩
theorem sw_heap (W : World) (g n : Nat) (F : Array Value) (os : Array Obj) (cur : Array Value) (t : TypeId) (h : W.heap[g]? = some (.cells cur t (0, 0))) :
    (grow (putRow id (Sort.ahead W n) g 0 F) os).heap[g]? = some (.cells (putCells id 0 F cur) t (0, 0)) := by
  have hlt : g < W.heap.size := (Array.getElem?_eq_some_iff.1 h).1
  show ((W.heap.modify g (onCells (putCells id 0 F))) ++ os)[g]? = _
  rw [Array.getElem?_append_left (by simpa using hlt), Array.getElem?_modify, if_pos rfl, h]
  rfl
theorem sw_other (W : World) (g n : Nat) (F : Array Value) (os : Array Obj) (k : Nat) (hk : k < W.heap.size) (hne : k ≠ g) : (grow (putRow id (Sort.ahead W n) g 0 F) os).heap[k]? = W.heap[k]? := by
  show ((W.heap.modify g (onCells (putCells id 0 F))) ++ os)[k]? = _
  rw [Array.getElem?_append_left (by simpa using hk), Array.getElem?_modify, if_neg (Ne.symm hne)]
theorem sw_size (W : World) (g n : Nat) (F : Array Value) (os : Array Obj) : W.heap.size ≤ (grow (putRow id (Sort.ahead W n) g 0 F) os).heap.size := by
  show _ ≤ ((W.heap.modify g (onCells (putCells id 0 F))) ++ os).size
  simp
theorem SB.sorted (h : SB val base w0 g cap d W) {d' : Array α} (hs : d'.size = d.size) (n : Nat) (os : Array Obj) : SB val base w0 g cap d' (sortWorldK (fun x => encQ (val x)) 3 W g 0 n d' os) := by
  have hge := h.ge
  have hlt := h.lt
  have hH := holdsK_sortWorldK_c (fun x => encQ (val x)) 3 W g 0 d d' n os h.holds hlt hs
  obtain ⟨h0, inner, ⟨hn, hor⟩, hreps⟩ := h.row
  rcases hor with ⟨hv, _⟩ | ⟨g', cap', cur, hv, hb, hcur, hnc, hcm, hsz, htk⟩
  · cases hv
  · injection hv with e1 e2 e3
    injection e1 with e1
    injection e1 with e1
    subst e1 e3
    have hcur' := sw_heap W g n (flatK (fun x => encQ (val x)) 3 d') os cur _ hcur
    have hsz3 : cur.size = cap * 3 := hsz
    have hsz' : (putCells id 0 (flatK (fun x => encQ (val x)) 3 d') cur).size = cap * 3 := by rw [← hsz3]; simp [putCells]
    have hlen : ((putCells id 0 (flatK (fun x => encQ (val x)) 3 d') cur).toList.take ((List.map val d'.toList).length * 3)).length = (List.map val d'.toList).length * 3 := by
      have h1 : d.size ≤ cap := by simpa using hnc
      have h2 := Nat.mul_le_mul_right 3 (show d'.size ≤ cap by omega)
      have h3 : (List.map val d'.toList).length = d'.size := by rw [List.length_map, Array.length_toList]
      rw [h3, List.length_take, show (putCells id 0 (flatK (fun x => encQ (val x)) 3 d') cur).toList.length = cap * 3 from by rw [← hsz', Array.length_toList]]
      exact Nat.min_eq_left h2
    refine ⟨⟨h0, _, ⟨?_, .inr ⟨g, cap, _, by rw [List.length_map, Array.length_toList], hb, hcur', ?_, hcm, hsz', rfl⟩⟩, ?_, ?_⟩, ?_, ?_⟩
    · exact hlen
    · rw [List.length_map, Array.length_toList]; simpa [hs] using hnc
    · exact hlen
    · intro j p hj
      have hjl : j < d'.size := by have := (List.getElem?_eq_some_iff.1 hj).1; simpa using this
      have hp : p = val d'[j]! := by
        rw [List.getElem?_map] at hj
        obtain ⟨x, hx, rfl⟩ := Option.map_eq_some_iff.1 hj
        rw [Array.getElem?_toList] at hx
        rw [getElem!_pos d' j hjl, (Array.getElem?_eq_some_iff.1 hx).2]
      subst hp
      have hc : ∀ c, c < 3 → (putCells id 0 (flatK (fun x => encQ (val x)) 3 d') cur)[j * 3 + c]? = some (encQ (val d'[j]!))[c]! := fun c hc => by
        have := (hH.cell hjl hc).1
        rw [show 0 + j * 3 + c = j * 3 + c from by omega] at this
        rw [← this]
        exact (blk_cell hcur' _).symm
      have h3 : j * 3 + 3 ≤ d'.size * 3 := by have := Nat.mul_le_mul_right 3 (show j + 1 ≤ d'.size from hjl); rwa [Nat.add_mul, Nat.one_mul] at this
      have hl : ((List.drop (j * 3) ((putCells id 0 (flatK (fun x => encQ (val x)) 3 d') cur).toList.take (List.length (List.map val d'.toList) * 3))).take 3) = [.int .i64 (val d'[j]!).f0, .int .i64 (val d'[j]!).f1, .int .i64 (val d'[j]!).f2] := by
        refine List.ext_getElem? (fun i => ?_)
        by_cases hi : i < 3
        · rw [List.getElem?_take, if_pos hi, List.getElem?_drop, List.getElem?_take, if_pos (by simp; omega), Array.getElem?_toList, hc i hi]
          rcases (by omega : i = 0 ∨ i = 1 ∨ i = 2) with rfl | rfl | rfl <;> rfl
        · rw [List.getElem?_take, if_neg hi, List.getElem?_eq_none (by simp; omega)]
      exact hl ▸ k61_mkM _ _ _ _
    · exact ⟨Nat.le_trans h.kept.1 (sw_size _ _ _ _ _), fun i hi hne => (sw_other W g n _ os i (Nat.lt_of_lt_of_le hi h.kept.1) hne).trans (h.kept.2 i hi hne)⟩
    · exact h.be.trans ⟨rfl, rfl, rfl, sw_size _ _ _ _ _, fun k hk => sw_other W g n _ os k (by omega) (by omega)⟩
end Go.Proofs.Ytnfiejagokefcaa.Sk

namespace Go.Proofs
open Go.Shelf
def Try.sortSq_ren : Go.Shelf.Ren := ⟨fun | 6 => 75 | 15 => 81 | 14 => 80 | 28 => 91 | 29 => 92 | 20 => 83 | 21 => 84 | 22 => 85 | 23 => 86 | 24 => 87 | 25 => 88 | 26 => 89 | 27 => 90 | 46 => 94 | 47 => 95 | 48 => 96 | 49 => 97 | 50 => 98 | 57 => 100 | n => n, fun | 22 => 29 | 24 => 61 | 25 => 66 | 3 => 3 | 39 => 86 | 0 => 0 | 53 => 97 | 55 => 99 | 4 => 4 | 46 => 90 | 45 => 89 | 50 => 94 | 5 => 5 | 9 => 9 | 66 => 100 | 70 => 104 | 76 => 106 | 77 => 107 | n => n, fun | n => n⟩
theorem Try.sortSq : Go.Proofs.SlLaysF0.n6 Try.prog Try.sortSq_ren := {
  mixed := by kernel_rfl
  f6 := ⟨Try.f75.name, by decide, Try.func75.trans (congrArg some (by kernel_rfl))⟩
  f14 := ⟨Try.f80.name, by decide, Try.func80.trans (congrArg some (by kernel_rfl))⟩
  f15 := Try.func81.trans (congrArg some (by kernel_rfl))
  f20 := ⟨Try.f83.name, by decide, Try.func83.trans (congrArg some (by kernel_rfl))⟩
  f21 := ⟨Try.f84.name, by decide, Try.func84.trans (congrArg some (by kernel_rfl))⟩
  f22 := ⟨Try.f85.name, by decide, Try.func85.trans (congrArg some (by kernel_rfl))⟩
  f23 := ⟨Try.f86.name, by decide, Try.func86.trans (congrArg some (by kernel_rfl))⟩
  f24 := ⟨Try.f87.name, by decide, Try.func87.trans (congrArg some (by kernel_rfl))⟩
  f25 := ⟨Try.f88.name, by decide, Try.func88.trans (congrArg some (by kernel_rfl))⟩
  f26 := ⟨Try.f89.name, by decide, Try.func89.trans (congrArg some (by kernel_rfl))⟩
  f27 := ⟨Try.f90.name, by decide, Try.func90.trans (congrArg some (by kernel_rfl))⟩
  f28 := Try.func91.trans (congrArg some (by kernel_rfl))
  f29 := Try.func92.trans (congrArg some (by kernel_rfl))
  f46 := ⟨Try.f94.name, by decide, Try.func94.trans (congrArg some (by kernel_rfl))⟩
  f47 := Try.func95.trans (congrArg some (by kernel_rfl))
  f48 := Try.func96.trans (congrArg some (by kernel_rfl))
  f49 := ⟨Try.f97.name, by decide, Try.func97.trans (congrArg some (by kernel_rfl))⟩
  f50 := ⟨Try.f98.name, by decide, Try.func98.trans (congrArg some (by kernel_rfl))⟩
  f57 := ⟨Try.f100.name, by decide, Try.func100.trans (congrArg some (by kernel_rfl))⟩
  t0 := Try.underlying0
  a0 := Try.isAgg0
  z0 := Try.sizeOf0
  v0 := Try.zeroValue0
  t3 := Try.underlying3
  a3 := Try.isAgg3
  z3 := Try.sizeOf3
  v3 := Try.zeroValue3
  t4 := Try.underlying4
  a4 := Try.isAgg4
  z4 := Try.sizeOf4
  v4 := Try.zeroValue4
  t5 := Try.underlying5
  a5 := Try.isAgg5
  z5 := Try.sizeOf5
  v5 := Try.zeroValue5
  t9 := Try.underlying9
  a9 := Try.isAgg9
  z9 := Try.sizeOf9
  v9 := Try.zeroValue9
  t22 := Try.underlying29
  a22 := Try.isAgg29
  z22 := Try.sizeOf29
  v22 := Try.zeroValue29
  t25 := Try.underlying66
  a25 := Try.isAgg66
  z25 := Try.sizeOf66
  v25 := Try.zeroValue66
  t39 := Try.underlying86
  a39 := Try.isAgg86
  z39 := Try.sizeOf86
  v39 := Try.zeroValue86
  t45 := Try.underlying89
  a45 := Try.isAgg89
  z45 := Try.sizeOf89
  v45 := Try.zeroValue89
  t46 := Try.underlying90
  a46 := Try.isAgg90
  z46 := Try.sizeOf90
  v46 := Try.zeroValue90
  t50 := Try.underlying94
  a50 := Try.isAgg94
  z50 := Try.sizeOf94
  v50 := Try.zeroValue94
  t53 := Try.underlying97
  a53 := Try.isAgg97
  z53 := Try.sizeOf97
  v53 := Try.zeroValue97
  t55 := Try.underlying99
  a55 := Try.isAgg99
  z55 := Try.sizeOf99
  v55 := Try.zeroValue99
  t66 := Try.underlying100
  a66 := Try.isAgg100
  z66 := Try.sizeOf100
  v66 := Try.zeroValue100
  t70 := Try.underlying104
  a70 := Try.isAgg104
  z70 := Try.sizeOf104
  v70 := Try.zeroValue104
  t76 := Try.underlying106
  a76 := Try.isAgg106
  z76 := Try.sizeOf106
  v76 := Try.zeroValue106
  t77 := Try.underlying107
  a77 := Try.isAgg107
  z77 := Try.sizeOf107
  v77 := Try.zeroValue107 }
end Go.Proofs

namespace Go.Proofs.Ytnfiejagokefcaa.P
open Go.RowKit Go.Proofs.YtnfiejagokefcaaW.PrintWords Go.Proofs.YtnfiejagokefcaaW.PrintLast Go.Proofs.YtnfiejagokefcaaW.PrintMore
attribute [local go_sem] max2_int min2_int max_two min_two max_three min_three max_four min_four
set_option linter.unusedVariables false
set_option linter.unusedSimpArgs false
open Go.Proofs.Ytnfiejagokefcaa.T Go.Proofs.Ytnfiejagokefcaa.Aid Go.Proofs.Ytnfiejagokefcaa.Sk Go.Sort Go.Shelf Go.Lib
theorem cp_grow (x y : Sq) (W : World) : Calls Try.prog 53 #[.agg #[.int .i64 x.f0, .int .i64 x.f1, .int .i64 x.f2], .agg #[.int .i64 y.f0, .int .i64 y.f1, .int .i64 y.f2]] W fun e w' => e = .returned (.int .i64 (cmpP x y)) ∧ ∃ q os', w' = grow (W.drewN q) os' := by
  have hu := Try.underlying61
  by_cases c : x.f1 = y.f1
  · have hz : cmpP x y = wrap64 (x.f0 - y.f0) := by unfold cmpP; rw [if_pos c]
    rw [hz]
    have c1 : (x.f1 == y.f1) = true := beq_iff_eq.mpr c
    have c2 : (x.f1 != y.f1) = false := bne_eq_false_iff_eq.mpr c
    clear c hz
    go_enter Try.func53, Try.ntmps53
    go_wp2_with fail
    go_ret
    exact ⟨rfl, 0, _, by rw [alloc_eq_grow, alloc_eq_grow, grow_grow]; rfl⟩
  · have hz : cmpP x y = wrap64 (x.f1 - y.f1) := by unfold cmpP; rw [if_neg c]
    rw [hz]
    have c1 : (x.f1 == y.f1) = false := beq_eq_false_iff_ne.mpr c
    have c2 : (x.f1 != y.f1) = true := bne_iff_ne.mpr c
    clear c hz
    go_enter Try.func53, Try.ntmps53
    go_wp2_with fail
    go_ret
    exact ⟨rfl, 0, _, by rw [alloc_eq_grow, alloc_eq_grow, grow_grow]; rfl⟩
theorem cp_lays (blk off size : Nat) (w : World) : CmpLays Try.prog 53 #[] (fun x : BSq => encQ x.1) 3 cfB blk off size w := fun _ _ _ _ x y => cp_grow x.1 y.1 _
theorem sortSq {base g cap : Nat} {w0 W : World} {L : List BSq} {l : List Sq} (hL : L.map (·.1) = l) (hp : (srt l).Pairwise Lt) (h : SB (fun x : BSq => x.1) base w0 g cap L.toArray W) (hsz : L.length ≤ 1000000) :
    Calls Try.prog 75 #[.slice (some ⟨g, 0, none⟩) L.length cap, .func (.func 53) #[] #[]] W fun e w' =>
      e = .returned (.tuple #[]) ∧ ∃ d' : Array BSq, d'.size = L.length ∧ d'.toList.map (·.1) = srt l ∧ SB (fun x : BSq => x.1) base w0 g cap d' w' := by
  have hsz2 : L.toArray.size = L.length := by simp
  have hcon := AnyQ.slices_SortFunc Try.sortSq 3 Try.isAgg61 Try.sizeOf61 (fun x : BSq => encQ x.1) (fun _ => rfl) (fun x v hv => by simp [encQ] at hv; rcases hv with rfl | rfl | rfl <;> rfl) cfB swo_b 53 #[] g 0 cap L.toArray W (enters_of Try.func53 (by kernel_rfl) rfl) (cp_lays _ _ _ _) h.holds h.lt (by simp; omega)
  change Calls Try.prog 75 _ _ _ at hcon
  rw [hsz2] at hcon
  refine hcon.mono ?_
  rintro e w' ⟨he, d', n, os, hP, hS, rfl⟩
  rw [← hsz2] at hP hS
  have hso := sorted_list hP hS
  have hd : d'.size = L.length := by rw [hP.1, hsz2]
  refine ⟨he, d', hd, ?_, h.sorted (by rw [hd, hsz2]) n os⟩
  have h1 : (L.toArray).toList.map (fun x : BSq => x.1) = l := hL
  rw [h1] at hso
  exact (up_unique ((srt_perm l).trans hso.1.symm) (hp.imp (fun h => ltb_iff.2 h)) hso.2).symm
theorem ch_step (p : Sq → Sq) (l : List Sq) (i : Nat) (hi : i < l.length) (q : Sq) (hq : l[i]? = some q) : (l.take i).map p ++ [p q] = (l.take (i + 1)).map p := by
  rw [List.take_add_one, hq, List.map_append]; rfl
theorem ch_app {W w1 : World} {base B9 n cap : Nat} {A : Option Addr} {xs : List Sq} {ok : Nat → Prop} (h : Kd.R k61 61 W base ok (.slice A n cap) xs) {cs : Array Value} (hb : W.heap[B9]? = some (.cells cs 31 (0, 0))) (hg : W.grownBy w1 (Value.slice A n cap).ownBlock) : w1.heap[B9]? = some (.cells cs 31 (0, 0)) := blk_grown hb hg (Kd.R_ne h hb (by decide))
set_option maxHeartbeats 8000000 in
set_option maxRecDepth 100000 in
theorem changed_calls (a b W H : Int) (A : Option Addr) (c : Nat) (l : List Sq) (g : Nat) (lb : Array Value) (p : Sq → Sq) (w : World) (hr : Kd.C k61 w A l.length l) (hc : l.length ≤ c) (hl0 : 0 < l.length) (hl : l.length ≤ 1000000) (hok : ∀ q ∈ l, okQ (p q) = true) (hlt : (srt (l.map p)).Pairwise Lt)
    (eg : ∀ args w, (callFunc g args).run Try.prog w = .ok (.enter g args) w)
    (hp : ∀ (V : World) (x : Sq), Below w.heap.size w V → x ∈ l → Calls Try.prog g (#[.agg #[.int .i64 x.f0, .int .i64 x.f1, .int .i64 x.f2]] ++ lb) V fun e w' => e = .returned (.agg #[.int .i64 (p x).f0, .int .i64 (p x).f1, .int .i64 (p x).f2]) ∧ Below V.heap.size V w') :
    Calls Try.prog 66 #[.agg #[.int .i64 a, .int .i64 b, .slice A l.length c], .int .i64 W, .int .i64 H, .func (.func g) #[] lb] w fun e w' => ∃ v, e = .returned (.agg #[.int .i64 W, .int .i64 H, v]) ∧ Kd.R k61 61 w' w.heap.size (fun _ => True) v (srt (l.map p)) ∧ Below w.heap.size w w' := by
  have HR := Aside0.mk hr
  have HC := Aside0.mk hc
  have HOK := Aside0.mk hok
  have HLT := Aside0.mk hlt
  have HP := Aside0.mk hp
  have HL := Aside0.mk (And.intro hl0 hl)
  have hu := Try.underlying61
  have hu2 := Try.underlying31
  have HX0 := Aside0.mk (heap_alloc_new (w.alloc (.cells #[.int .i64 a, .int .i64 b, .slice A l.length c] 31)) (.cells #[.int .i64 0, .int .i64 0, .slice none 0 0] 31))
  rw [show (w.alloc (.cells #[.int .i64 a, .int .i64 b, .slice A l.length c] 31)).heap.size = w.heap.size + 1 from by simp] at HX0
  have HX1 := Aside0.mk (heap_alloc_new ((w.alloc (.cells #[.int .i64 a, .int .i64 b, .slice A l.length c] 31)).alloc (.cells #[.int .i64 0, .int .i64 0, .slice none 0 0] 31)) (.cells #[.int .i64 W, .int .i64 H, .slice none 0 0] 31))
  rw [show ((w.alloc (.cells #[.int .i64 a, .int .i64 b, .slice A l.length c] 31)).alloc (.cells #[.int .i64 0, .int .i64 0, .slice none 0 0] 31)).heap.size = w.heap.size + 1 + 1 from by simp] at HX1
  clear hr hc hok hlt hp hl0 hl
  go_enter Try.func66, Try.ntmps66
  go_wp2_with fail
  go_loopg [18] l.length (fun kq v18 wc => ∃ (i : Nat) (xi : Int) (A9 : Option Addr) (n9 c9 : Nat), i ≤ l.length ∧ l.length - i ≤ kq ∧ (i : Int) = xi ∧ v18 = .int .i64 xi ∧ Aside0 (wc.heap[w.heap.size + 1]? = some (.cells #[.int .i64 0, .int .i64 0, .slice none 0 0] 31 (0, 0))) ∧ Aside0 (wc.heap[w.heap.size + 1 + 1]? = some (.cells #[.int .i64 W, .int .i64 H, .slice A9 n9 c9] 31 (0, 0))) ∧ Aside0 (Kd.R k61 61 wc w.heap.size (fun _ => True) (.slice A9 n9 c9) ((l.take i).map p)) ∧ Aside0 (Below w.heap.size w wc))
  case atStart => exact ⟨0, 0, none, 0, 0, by omega, by omega, rfl, rfl, ⟨blk_alloc HX0.out _⟩, HX1, ⟨Kd.R_nil _ _ _ _ _⟩, ⟨below_alloc (below_alloc (below_alloc (Below.refl _ _) _) _) _⟩⟩
  case round =>
    clear HX0 HX1
    obtain ⟨i, xi, A9, n9, c9, hi, hk, hxi, rfl, HX0, HX1, HR9, HB⟩ := hrel
    by_cases hlt : i < l.length
    · have b1 : decide (xi < (l.length : Int)) = true := decide_eq_true (by omega)
      obtain ⟨ad, e1, x0, x1, x2⟩ := at_T61 (Kd.C_below HR.out HB.out) xi (by omega) (by omega)
      cases e1
      have hq : l[i]? = some (rd_T61 l xi) := by
        unfold rd_T61
        rw [← hxi, Int.toNat_natCast, List.getD_eq_getElem?_getD, List.getElem?_eq_getElem hlt]; rfl
      have hmem := List.mem_of_getElem? hq
      have hst := ch_step p l i hlt _ hq
      generalize rd_T61 l xi = q at x0 x1 x2 hmem hst
      have HST := Aside0.mk hst
      have HCALL : Aside0 (∀ V, Below w.heap.size w V → Calls Try.prog g (#[.agg #[.int .i64 q.f0, .int .i64 q.f1, .int .i64 q.f2]] ++ lb) V fun e w' => e = .returned (.agg #[.int .i64 (p q).f0, .int .i64 (p q).f1, .int .i64 (p q).f2]) ∧ Below V.heap.size V w') := ⟨fun V hV => HP.out V q hV hmem⟩
      generalize p q = r at HST HCALL
      have q1 := eq_true (show 0 ≤ xi by omega)
      have q2 := eq_true (show xi < (l.length : Int) by omega)
      have HI : Aside0 (i < l.length ∧ l.length - i ≤ gk ∧ (i : Int) = xi) := ⟨hlt, hk, hxi⟩
      have HNE : Aside0 (some wr.heap.size ≠ (Value.slice A9 n9 c9).ownBlock) := ⟨fun e => Nat.lt_irrefl _ (Kd.R_lt HR9.out _ e.symm)⟩
      have HX0b := Aside0.mk (blk_drew (blk_alloc HX0.out (.cells #[.int .i64 q.f0, .int .i64 q.f1, .int .i64 q.f2] 61)))
      have HX1b := Aside0.mk (blk_drew (blk_alloc HX1.out (.cells #[.int .i64 q.f0, .int .i64 q.f1, .int .i64 q.f2] 61)))
      have HX2b := Aside0.mk (blk_drew (heap_alloc_new wr (.cells #[.int .i64 q.f0, .int .i64 q.f1, .int .i64 q.f2] 61)))
      have HR9b := Aside0.mk (Kd.R_drew (Kd.R_alloc HR9.out (.cells #[.int .i64 q.f0, .int .i64 q.f1, .int .i64 q.f2] 61)))
      have HBb := Aside0.mk (below_drew (below_alloc HB.out (.cells #[.int .i64 q.f0, .int .i64 q.f1, .int .i64 q.f2] 61)))
      clear hi hk hxi hlt hq hmem hst HX0 HX1 HR9 HB
      go_wp2_with fail
      refine start_ (n := 9) (S := fun w' => w'.cell? ⟨w.heap.size + 1 + 1, 2, none⟩ = some (.slice A9 n9 c9) ∧ w'.cell? ⟨wr.heap.size, 0, none⟩ = some (.int .i64 q.f0) ∧ w'.cell? ⟨wr.heap.size, 1, none⟩ = some (.int .i64 q.f1) ∧ w'.cell? ⟨wr.heap.size, 2, none⟩ = some (.int .i64 q.f2)) (ds := [8]) #[false, false, false, false, false, false, false, false, false] (by kernel_rfl) rfl rfl ⟨(blk_cell HX1b.out 2).trans rfl, (blk_cell HX2b.out 0).trans rfl, (blk_cell HX2b.out 1).trans rfl, (blk_cell HX2b.out 2).trans rfl⟩ (fun hHeld => ?_)
      generalize (wr.alloc (.cells #[.int .i64 q.f0, .int .i64 q.f1, .int .i64 q.f2] 61)).drew = w5 at HX0b HX1b HX2b HR9b HBb hHeld ⊢
      clear x0 x1 x2
      refine pure_ (i := 0) (N := some 22) (v := ?_) (a' := ?_) #[true, false, false, false, false, false, false, false, false] rfl rfl (by kernel_rfl) (fun _ _ _ h => h) (Or.inl ⟨by rfl, ?_⟩) ?_ ?_
      rotate_left
      · intro w'
        go_simp
        with_reducible rfl
      rotate_left
      · simp only [Act.put, List.setIfInBounds_toArray, List.set_cons_zero, List.set_cons_succ, i64_w, i32_w]
        rfl
      refine take_ (i := 1) (N := some 23) (v := ?_) (a' := ?_) #[true, true, false, false, false, false, false, false, false] rfl rfl (by kernel_rfl) (fun _ _ _ h => h) (Or.inl ⟨by rfl, ?_⟩) hHeld ?_ ?_
      rotate_left
      · rintro w' ⟨s0, s1, s2, s3⟩
        go_simp
        with_reducible rfl
      rotate_left
      · simp only [Act.put, List.setIfInBounds_toArray, List.set_cons_zero, List.set_cons_succ, i64_w, i32_w]
        rfl
      refine pure_ (i := 2) (N := some 24) (v := ?_) (a' := ?_) #[true, true, true, false, false, false, false, false, false] rfl rfl (by kernel_rfl) (fun _ _ _ h => h) (Or.inl ⟨by rfl, ?_⟩) ?_ ?_
      rotate_left
      · intro w'
        go_simp
        with_reducible rfl
      rotate_left
      · simp only [Act.put, List.setIfInBounds_toArray, List.set_cons_zero, List.set_cons_succ, i64_w, i32_w]
        rfl
      refine take_ (i := 3) (N := some 25) (v := ?_) (a' := ?_) #[true, true, true, true, false, false, false, false, false] rfl rfl (by kernel_rfl) (fun _ _ _ h => h) (Or.inl ⟨by rfl, ?_⟩) hHeld ?_ ?_
      rotate_left
      · rintro w' ⟨s0, s1, s2, s3⟩
        go_simp
        with_reducible rfl
      rotate_left
      · simp only [Act.put, List.setIfInBounds_toArray, List.set_cons_zero, List.set_cons_succ, i64_w, i32_w]
        rfl
      refine one_ (i := 4) (N := some 26) #[true, true, true, true, true, false, false, false, false] rfl rfl (by kernel_rfl) (by decide) (fun K hK => ?_)
      go_simp
      go_at_fn g
      refine (HCALL.out _ HBb.out).mono ?_
      rintro e w6 ⟨rfl, hb⟩
      have HX0c := Aside0.mk (blk_below HX0b.out hb)
      have HX1c := Aside0.mk (blk_below HX1b.out hb)
      have HX2c := Aside0.mk (blk_below HX2b.out hb)
      have HR9c := Aside0.mk (Kd.R_below HR9b.out hb)
      have HBc := Aside0.mk (below_step HBb.out hb)
      clear HX0b HX1b HX2b HR9b HBb hb hHeld
      refine hK.out _ _ ⟨(blk_cell HX1c.out 2).trans rfl, (blk_cell HX2c.out 0).trans rfl, (blk_cell HX2c.out 1).trans rfl, (blk_cell HX2c.out 2).trans rfl⟩ (fun hHeld => ?_)
      clear hK K
      refine one_ (i := 5) (N := some 27) #[true, true, true, true, true, true, false, false, false] rfl rfl (by kernel_rfl) (by decide) (fun K hK => ?_)
      go_simp
      refine hK.out _ _ ⟨(blk_cell (blk_alloc HX1c.out _) 2).trans rfl, (blk_cell (blk_alloc HX2c.out _) 0).trans rfl, (blk_cell (blk_alloc HX2c.out _) 1).trans rfl, (blk_cell (blk_alloc HX2c.out _) 2).trans rfl⟩ (fun hHeld => ?_)
      clear hK K
      refine one_ (i := 6) (N := some 28) #[true, true, true, true, true, true, true, false, false] rfl rfl (by kernel_rfl) (by decide) (fun K hK => ?_)
      have hlen : ((l.take i).map p).length ≤ 1000000 := by rw [List.length_map]; exact Nat.le_trans (List.length_take_le' _ _) HL.out.2
      have HLN := Aside0.mk hlen
      clear hlen
      refine Kd.R_append_step k61 (w0 := w) w.heap.size (by simp [Region.wanted]) (.tmp 23) (.tmp 27) 29 61 (.agg #[.int .i64 0, .int .i64 0, .int .i64 0]) 24 rfl Try.underlying29 info61 rfl (by decide) (by omega) (.slice A9 n9 c9) ((l.take i).map p) r [.int .i64 r.f0, .int .i64 r.f1, .int .i64 r.f2] (fun _ => True) (fun _ => False) rfl rfl (k61_mkM _ _ _ _) (fun _ h => h.elim) (fun _ _ => trivial) HR9c.out HBc.out HBc.out.size (by have := HLN.out; omega) ?_
      intro v7 w7 ho hb hg hat
      obtain ⟨A7, c7, e7⟩ := Kd.R_slice ho
      subst e7
      have HX0d := Aside0.mk (ch_app HR9c.out HX0c.out hg)
      have HX1d := Aside0.mk (ch_app HR9c.out HX1c.out hg)
      have HX2d := Aside0.mk (blk_grown HX2c.out hg HNE.out)
      have HR9d := Aside0.mk ho
      have HBd := Aside0.mk hb
      obtain ⟨n7, hn7⟩ : ∃ n7, ((l.take i).map p ++ [r]).length = n7 := ⟨_, rfl⟩
      rw [hn7] at HR9d
      clear HX0c HX1c HX2c HR9c HBc ho hb hg hat hHeld HNE HLN
      refine hK.out _ _ ⟨(blk_cell HX1d.out 2).trans rfl, (blk_cell HX2d.out 0).trans rfl, (blk_cell HX2d.out 1).trans rfl, (blk_cell HX2d.out 2).trans rfl⟩ (fun hHeld => ?_)
      clear hK K
      refine norm_ (a' := ?_) ?_ ?_
      rotate_left
      · show Act.put _ (some 28) _ = _
        simp only [hn7, Act.put, List.setIfInBounds_toArray, List.set_cons_zero, List.set_cons_succ, i64_w, i32_w]
        rfl
      refine pure_ (i := 7) (N := some 29) (v := ?_) (a' := ?_) #[true, true, true, true, true, true, true, true, false] rfl rfl (by kernel_rfl) (fun _ _ _ h => h) (Or.inl ⟨by rfl, ?_⟩) ?_ ?_
      rotate_left
      · intro w'
        go_simp
        with_reducible rfl
      rotate_left
      · simp only [Act.put, List.setIfInBounds_toArray, List.set_cons_zero, List.set_cons_succ, i64_w, i32_w]
        rfl
      refine last_ (i := 8) (N := none) #[true, true, true, true, true, true, true, true, true] rfl rfl (by kernel_rfl) (by decide) (fun K hK => ?_)
      have k2 : w7.cell? ⟨w.heap.size + 1 + 1, 2, none⟩ = some (.slice A9 n9 c9) := (blk_cell HX1d.out 2).trans rfl
      have f2 := blk_frozen HX1d.out 2
      go_simp
      refine hK.out _ _ ?_
      clear hK K hHeld k2 f2
      refine done_ (by kernel_rfl) ?_
      have HX0e : Aside0 ((w7.setCell ⟨w.heap.size + 1 + 1, 2, none⟩ (.slice A7 n7 c7)).heap[w.heap.size + 1]? = some (.cells #[.int .i64 0, .int .i64 0, .slice none 0 0] 31 (0, 0))) := ⟨(Below.heap_setCell _ _ _ _ (by simp)).trans HX0d.out⟩
      have HX1e := Aside0.mk (blk_put HX1d.out 2 (.slice A7 n7 c7) (cs' := #[.int .i64 W, .int .i64 H, .slice A7 n7 c7]) rfl)
      have HR9e := Aside0.mk (Kd.R_set HR9d.out HX1d.out (by decide) 2 (.slice A7 n7 c7))
      have HBe := Aside0.mk (below_set (j := 2) (v := .slice A7 n7 c7) HBd.out (show w.heap.size ≤ w.heap.size + 1 + 1 by omega))
      clear HX0d HX1d HX2d HR9d HBd
      have EI : Aside0 (wrap64 (xi + 1) = ((i + 1 : Nat) : Int)) := ⟨by have h1 := HI.out; have h2 := HL.out; rw [w64 (by omega) (by omega)]; omega⟩
      rw [HST.out] at HR9e
      clear hn7
      go_wp2_with fail
      go_roundg (l.length - (i + 1))
      case measure => have h1 := HI.out; omega
      case rel => exact ⟨i + 1, _, A7, n7, c7, by have h1 := HI.out; omega, Nat.le_refl _, rfl, by first | rfl | rw [EI.out], HX0e, HX1e, HR9e, HBe⟩
    · have b1 : decide (xi < (l.length : Int)) = false := decide_eq_false (by omega)
      obtain rfl : i = l.length := by omega
      have hr9 := HR9.out
      rw [List.take_length] at hr9
      obtain ⟨L, hL⟩ := lift_b (l.map p) (fun q hq => by obtain ⟨s, hs, rfl⟩ := List.mem_map.1 hq; exact HOK.out s hs)
      have hLl : L.length = l.length := by have := congrArg List.length hL; rwa [List.length_map, List.length_map] at this
      obtain ⟨g9, cap9, e9, hge, hlt9, cells9, hcl⟩ := Kd.R_form hr9 (by rw [List.length_map]; exact HL.out.1)
      rw [List.length_map, ← hLl] at e9
      injection e9 with e1 e2 e3
      subst e1 e2 e3
      have HSB : Aside0 (SB (fun x : BSq => x.1) w.heap.size wr g9 c9 L.toArray wr) := ⟨⟨by
        have h1 := Kd.R_mono (ok' := fun k => k = g9) (Kd.R_tight rfl hr9) (fun k hk => by simpa [Value.ownBlock] using hk)
        rw [show L.toArray.size = L.length by simp]
        show Kd.R _ _ _ _ _ _ (L.map (·.1))
        rw [hL]
        exact h1, Kept.refl _ _, Below.refl _ _⟩⟩
      have HSORT := Aside0.mk (sortSq hL HLT.out HSB.out (by rw [hLl]; exact HL.out.2))
      have HN0 : Aside0 (¬ (w.heap.size + 1 = g9)) := ⟨blk_ne HX0.out hcl (by decide)⟩
      have HN1 : Aside0 (¬ (w.heap.size + 1 + 1 = g9)) := ⟨blk_ne HX1.out hcl (by decide)⟩
      have k2 : wr.cell? ⟨w.heap.size + 1 + 1, 2, none⟩ = some (.slice (some ⟨g9, 0, none⟩) L.length c9) := (blk_cell HX1.out 2).trans rfl
      clear hr9 hLl hge hlt9 hcl HSB HR9 hi hk hxi hlt hL
      go_wp2_with (go_at_call 75; refine HSORT.out.mono ?_; rintro e w8 ⟨rfl, d', hd, hm, hS⟩; have HD := Aside0.mk (And.intro hd hm); have HS := Aside0.mk hS; have HX0b := Aside0.mk (blk_kept HX0.out hS.kept HN0.out); have HX1b := Aside0.mk (blk_kept HX1.out hS.kept HN1.out); have m0 : w8.cell? ⟨w.heap.size + 1 + 1, 0, none⟩ = some (.int .i64 W) := (blk_cell HX1b.out 0).trans rfl; have m1 : w8.cell? ⟨w.heap.size + 1 + 1, 1, none⟩ = some (.int .i64 H) := (blk_cell HX1b.out 1).trans rfl; have m2 : w8.cell? ⟨w.heap.size + 1 + 1, 2, none⟩ = some (.slice (some ⟨g9, 0, none⟩) L.length c9) := (blk_cell HX1b.out 2).trans rfl; have n0 : w8.cell? ⟨w.heap.size + 1, 0, none⟩ = some (.int .i64 0) := (blk_cell HX0b.out 0).trans rfl; have n1 : w8.cell? ⟨w.heap.size + 1, 1, none⟩ = some (.int .i64 0) := (blk_cell HX0b.out 1).trans rfl; have n2 : w8.cell? ⟨w.heap.size + 1, 2, none⟩ = some (.slice none 0 0) := (blk_cell HX0b.out 2).trans rfl; have f0 := blk_frozen HX0b.out 0; have f1 := blk_frozen HX0b.out 1; have f2 := blk_frozen HX0b.out 2; clear hd hm hS k2 HSORT)
      have hrow := HS.out.row
      rw [HD.out.1] at hrow
      change Kd.R _ _ _ _ _ _ (d'.toList.map (fun x : BSq => x.1)) at hrow
      rw [show d'.toList.map (fun x : BSq => x.1) = srt (l.map p) from HD.out.2] at hrow
      refine bodyPost_ret (results_cell_row rfl _ _ (w.heap.size + 1) 31 #[.int .i64 W, .int .i64 H, .slice (some ⟨g9, 0, none⟩) L.length c9] (0, 0) _ rfl (blk_put (blk_put (blk_put HX0b.out 0 (.int .i64 W) rfl) 1 (.int .i64 H) rfl) 2 (.slice (some ⟨g9, 0, none⟩) L.length c9) rfl) Try.underlying31 rfl (by kernel_rfl)) rfl ?_
      have h1 := Kd.R_types hrow HX0b.out (by decide)
      refine ⟨_, rfl, ?_, below_set (below_set (below_set (HB.out.trans HS.out.be) (Nat.le_add_right _ _)) (Nat.le_add_right _ _)) (Nat.le_add_right _ _)⟩
      exact Kd.R_mono (Kd.R_far (p := ⟨w.heap.size + 1, 2, none⟩) (Kd.R_far (p := ⟨w.heap.size + 1, 1, none⟩) (Kd.R_far (p := ⟨w.heap.size + 1, 0, none⟩) h1 (fun _ hk => hk.2) _) (fun _ hk => hk.2) _) (fun _ hk => hk.2) _) (fun _ _ => trivial)
end Go.Proofs.Ytnfiejagokefcaa.P

namespace Go.Proofs.Ytnfiejagokefcaa.Pure
set_option linter.unusedVariables false
set_option linter.unusedSimpArgs false
open Go.RowKit Go.Proofs.Ytnfiejagokefcaa.P Go.Proofs.YtnfiejagokefcaaW.PrintWords Go.Proofs.YtnfiejagokefcaaW.PrintLast Go.Proofs.Ytnfiejagokefcaa.Aid
theorem l1In_f (n lo hi : Int) : spec_l1In.f n lo hi = some (inR n lo hi) := by
  unfold spec_l1In.f inR; by_cases c : lo ≤ n <;> simp [c]
end Go.Proofs.Ytnfiejagokefcaa.Pure

namespace Go.Proofs.Ytnfiejagokefcaa.Pure
set_option linter.unusedVariables false
set_option linter.unusedSimpArgs false
open Go.RowKit Go.Proofs.Ytnfiejagokefcaa.P Go.Proofs.YtnfiejagokefcaaW.PrintWords Go.Proofs.YtnfiejagokefcaaW.PrintLast Go.Proofs.YtnfiejagokefcaaW.PrintMore Go.Proofs.Ytnfiejagokefcaa.Aid Go.Proofs.Ytnfiejagokefcaa.T
theorem rdq (l : List Sq) (i : Nat) : rd_T61 l (i : Int) = nq l i := by unfold rd_T61 nq; rw [Int.toNat_natCast]; rfl
end Go.Proofs.Ytnfiejagokefcaa.Pure

namespace Go.Proofs.Ytnfiejagokefcaa.Pure
set_option linter.unusedVariables false
set_option linter.unusedSimpArgs false
open Go.RowKit Go.Proofs.Ytnfiejagokefcaa.P Go.Proofs.YtnfiejagokefcaaW.PrintWords Go.Proofs.YtnfiejagokefcaaW.PrintLast Go.Proofs.YtnfiejagokefcaaW.PrintMore Go.Proofs.Ytnfiejagokefcaa.Aid Go.Proofs.Ytnfiejagokefcaa.T
theorem apart_ovl (a b : Sq) (ha : inBox 500 500 a) (hb : inBox 500 500 b) : ovl a b = false ↔ Apart a b := by
  unfold inBox at ha hb
  unfold ovl Apart
  rw [w64 (by omega) (by omega), w64 (by omega) (by omega), w64 (by omega) (by omega), w64 (by omega) (by omega), Bool.eq_false_iff]
  simp only [ne_eq, Bool.and_eq_true, decide_eq_true_eq]
  constructor <;> intro h h' <;> exact h (by omega)
theorem inBox_mono {W H W' H' : Int} {q : Sq} (h : inBox W H q) (hw : W ≤ W') (hh : H ≤ H') : inBox W' H' q := by unfold inBox at *; omega
theorem lt_cmpP (a b : Sq) (ha : inBox 500 500 a) (hb : inBox 500 500 b) : cmpP a b < 0 ↔ Lt a b := by
  unfold inBox at ha hb
  unfold cmpP Lt
  split
  · rw [w64 (by omega) (by omega)]; omega
  · rw [w64 (by omega) (by omega)]; omega
theorem okAt_iff (W H : Int) (l : List Sq) (hW : 1 ≤ W ∧ W ≤ 500) (hH : 1 ≤ H ∧ H ≤ 500) (i : Nat) (hi : i < l.length) (hold : ∀ j, j < i → inBox W H (nq l j)) : okAt W H l i = true ↔ OkS W H l i := by
  unfold okAt OkS
  simp only [rdq, Bool.and_eq_true, Bool.not_eq_true']
  have hbox : (ok1 W H (nq l i) = true ∧ ok2 W (nq l i) = true ∧ ok3 H (nq l i) = true) ↔ inBox W H (nq l i) := by
    unfold ok1 ok2 ok3 inBox
    simp only [Bool.and_eq_true, decide_eq_true_eq, mn_min]
    constructor
    · rintro ⟨⟨h1, h2⟩, ⟨h3, h4⟩, h5, h6⟩
      rw [w64 (by omega) (by omega)] at h4 h6
      omega
    · intro h
      rw [w64 (by omega) (by omega), w64 (by omega) (by omega)]
      omega
  have big : ∀ {q : Sq}, inBox W H q → inBox 500 500 q := fun h => inBox_mono h hW.2 hH.2
  constructor
  · rintro ⟨⟨⟨⟨h1, h2⟩, h3⟩, h4⟩, h5⟩
    have hb := hbox.1 ⟨h1, h2, h3⟩
    refine ⟨hb, fun j hj => ⟨?_, fun e => ?_⟩⟩
    · rw [List.any_eq_false] at h5
      have := h5 (nq l j) (by rw [← nq_take l i j hj]; exact nq_mem _ _ (by simp; omega))
      exact (apart_ovl _ _ (big hb) (big (hold j hj))).1 (Bool.eq_false_iff.2 this)
    · unfold ok4 at h4
      subst e
      rw [Bool.or_eq_true, decide_eq_true_eq, decide_eq_true_eq] at h4
      rcases h4 with h4 | h4
      · cases h4
      · rw [show j + 1 - 1 = j by omega, rdq] at h4
        exact (lt_cmpP _ _ (big (hold j hj)) (big hb)).1 h4
  · rintro ⟨hb, hs⟩
    obtain ⟨h1, h2, h3⟩ := hbox.2 hb
    refine ⟨⟨⟨⟨h1, h2⟩, h3⟩, ?_⟩, ?_⟩
    · unfold ok4
      rw [Bool.or_eq_true, decide_eq_true_eq, decide_eq_true_eq]
      rcases Nat.eq_zero_or_pos i with h0 | h0
      · exact .inl h0
      · refine .inr ?_
        rw [rdq]
        exact (lt_cmpP _ _ (big (hold _ (by omega))) (big hb)).2 ((hs (i - 1) (by omega)).2 (by omega))
    · rw [List.any_eq_false]
      intro q hq
      obtain ⟨j, hj, rfl⟩ := List.getElem_of_mem hq
      rw [List.length_take] at hj
      rw [← nq_get, nq_take l i j (by omega)]
      rw [Bool.not_eq_true]
      exact (apart_ovl _ _ (big hb) (big (hold j (by omega)))).2 (hs j (by omega)).1
theorem okAt_all (W H : Int) (l : List Sq) (hW : 1 ≤ W ∧ W ≤ 500) (hH : 1 ≤ H ∧ H ≤ 500) : (∀ i, i < l.length → okAt W H l i = true) ↔ ∀ i, i < l.length → OkS W H l i := by
  constructor
  · intro h i
    induction i using Nat.strongRecOn with
    | _ i ih => exact fun hi => (okAt_iff W H l hW hH i hi (fun j hj => (ih j hj (by omega)).1)).1 (h i hi)
  · intro h i hi
    exact (okAt_iff W H l hW hH i hi (fun j hj => (h j (by omega)).1)).2 (h i hi)
theorem areaW_area (l : List Sq) : ∀ n, n ≤ l.length → l.length ≤ 30 → (∀ i, i < n → 0 ≤ (nq l i).f2 ∧ (nq l i).f2 ≤ 500) → areaW (l.take n) 0 = area (l.take n)
  | 0, _, _, _ => by simp [areaW, area]
  | n + 1, hn, hl, hb => by
    have ih := areaW_area l n (by omega) hl (fun i hi => hb i (by omega))
    have hq := sq_le (hb n (by omega)).1 (hb n (by omega)).2
    have ha := area_bd l 500 n (by omega) (fun i hi => hb i (by omega))
    rw [area_take l n (by omega), List.take_succ_eq_append_getElem (by omega), areaW_snoc, ih, ← nq_get l n (by omega), w64 (e := (nq l n).f2 * (nq l n).f2) (by omega) (by omega), w64 (by omega) (by omega)]
theorem isCutB_good (W H : Int) (l : List Sq) : isCutB W H l = goodB W H l := by
  rw [Bool.eq_iff_iff, goodB_iff, good_iff]
  unfold isCutB
  simp only [Bool.and_eq_true, decide_eq_true_eq, List.all_eq_true, List.mem_range, and_assoc]
  constructor
  · rintro ⟨h1, h2, h3, h4, h5, h6, h7⟩
    have hs := (okAt_all W H l ⟨h1, h2⟩ ⟨h3, h4⟩).1 h6
    refine ⟨h1, h2, h3, h4, h5, hs, ?_⟩
    have hb : ∀ i, i < l.length → 0 ≤ (nq l i).f2 ∧ (nq l i).f2 ≤ 500 := fun i hi => by have := (hs i hi).1; unfold inBox at this; omega
    have ha := areaW_area l l.length (Nat.le_refl _) h5 hb
    rw [List.take_length] at ha
    have hp : 0 ≤ W * H ∧ W * H ≤ 500 * 500 := ⟨Int.mul_nonneg (by omega) (by omega), Int.mul_le_mul h2 h4 (by omega) (by omega)⟩
    rw [ha, w64 (by omega) (by omega)] at h7
    exact h7
  · rintro ⟨h1, h2, h3, h4, h5, hs, h7⟩
    refine ⟨h1, h2, h3, h4, h5, (okAt_all W H l ⟨h1, h2⟩ ⟨h3, h4⟩).2 hs, ?_⟩
    have hb : ∀ i, i < l.length → 0 ≤ (nq l i).f2 ∧ (nq l i).f2 ≤ 500 := fun i hi => by have := (hs i hi).1; unfold inBox at this; omega
    have ha := areaW_area l l.length (Nat.le_refl _) h5 hb
    rw [List.take_length] at ha
    have hp : 0 ≤ W * H ∧ W * H ≤ 500 * 500 := ⟨Int.mul_nonneg (by omega) (by omega), Int.mul_le_mul h2 h4 (by omega) (by omega)⟩
    rw [ha, w64 (by omega) (by omega)]
    exact h7
theorem isCut_f (W H : Int) (l : List Sq) : impl_IsCut.f W H l = some (goodB W H l) := by unfold impl_IsCut.f; rw [isCutB_good]
def PairOk (l : List Sq) (i j : Nat) : Prop := Apart (nq l i) (nq l j) ∧ (j + 1 = i → Lt (nq l j) (nq l i))
theorem cuLess_f (a b : Sq) : spec_cuLess.f a.f0 a.f1 a.f2 b.f0 b.f1 b.f2 = some (decide (a.f1 < b.f1) || (decide (a.f1 = b.f1) && decide (a.f0 < b.f0))) := by
  unfold spec_cuLess.f
  by_cases c1 : a.f1 < b.f1
  · simp [c1]
  · by_cases c2 : a.f1 = b.f1 <;> simp [c1, c2]
theorem lt_less (a b : Sq) : (decide (a.f1 < b.f1) || (decide (a.f1 = b.f1) && decide (a.f0 < b.f0))) = true ↔ Lt a b := by
  unfold Lt; simp
section
variable (W H : Int) (l : List Sq)
theorem good_l1_step (a : Int) (i m : Nat) (hm : m < i) (hi : i < l.length) {r : Bool}
    (h : Ev (fun k => spec_cuGood.j4 k a i m l l.length i (l.take i) i m (ovl (nq l i) (nq l m)) W H l (nq l i).f0 (nq l i).f1 (nq l i).f2 (nq l m).f0 (nq l m).f1 (nq l m).f2) r) :
    Ev (fun k => spec_cuGood.l1 k a i l l.length i (l.take i) i m W H l (nq l i).f0 (nq l i).f1 (nq l i).f2) r := by
  have e : rd_T61 (l.take i) (m : Int) = nq l m := by rw [rdq, nq_take l i m hm]
  refine Ev.step (fun _ => spec_cuGood.l1.eq_2 ..) (ev_pos (by omega) (ev_pos (by omega) (ev_pos (by simp; omega) ?_)))
  simp only [e]
  unfold ovl at h
  by_cases c1 : (nq l i).f0 < wrap64 ((nq l m).f0 + (nq l m).f2)
  · refine ev_pos c1 ?_
    by_cases c2 : (nq l m).f0 < wrap64 ((nq l i).f0 + (nq l i).f2)
    · refine ev_pos c2 ?_
      by_cases c3 : (nq l i).f1 < wrap64 ((nq l m).f1 + (nq l m).f2)
      · refine ev_pos c3 ?_
        simpa [c1, c2, c3] using h
      · refine ev_neg c3 ?_
        simpa [c1, c2, c3] using h
    · refine ev_neg c2 ?_
      simpa [c1, c2] using h
  · refine ev_neg c1 ?_
    simpa [c1] using h
theorem good_pass (hl : l.length ≤ 30) (a : Int) (i : Nat) (hi : i < l.length) (hb : ∀ j, j ≤ i → inBox 500 500 (nq l j)) {r : Bool} (h : Ev (fun k => spec_cuGood.l0 k a l l.length (i + 1 : Nat) W H l) r) :
    ∀ (d m : Nat), m + d = i → (∀ j, m ≤ j → j < i → PairOk l i j) → Ev (fun k => spec_cuGood.l1 k a i l l.length i (l.take i) i m W H l (nq l i).f0 (nq l i).f1 (nq l i).f2) r
  | 0, m, hd, hp => by
    refine Ev.step (fun _ => spec_cuGood.l1.eq_2 ..) (ev_neg (by omega) ?_)
    rw [w64 (by omega) (by omega)]
    exact h
  | d + 1, m, hd, hp => by
    have ih := good_pass hl a i hi hb h d (m + 1) (by omega) (fun j h1 h2 => hp j (by omega) h2)
    obtain ⟨p1, p2⟩ := hp m (Nat.le_refl _) (by omega)
    refine good_l1_step W H l a i m (by omega) hi ?_
    rw [(apart_ovl _ _ (hb i (Nat.le_refl _)) (hb m (by omega))).2 p1]
    refine Ev.step (fun _ => spec_cuGood.j4.eq_2 ..) (ev_neg (by simp) ?_)
    rw [w64 (by omega) (by omega), w64 (by omega) (by omega)]
    by_cases c : m + 1 = i
    · refine ev_pos (by omega) (ev_call (cuLess_f (nq l m) (nq l i)) (ev_pos ((lt_less _ _).2 (p2 c)) ?_))
      exact ih
    · exact ev_neg (by omega) ih
theorem good_fail (hl : l.length ≤ 30) (a : Int) (i : Nat) (hi : i < l.length) (hb : ∀ j, j ≤ i → inBox 500 500 (nq l j)) :
    ∀ (d m : Nat), m + d = i → (∃ j, m ≤ j ∧ j < i ∧ ¬ PairOk l i j) → Ev (fun k => spec_cuGood.l1 k a i l l.length i (l.take i) i m W H l (nq l i).f0 (nq l i).f1 (nq l i).f2) false
  | 0, m, hd, hp => by obtain ⟨j, h1, h2, _⟩ := hp; omega
  | d + 1, m, hd, hp => by
    refine good_l1_step W H l a i m (by omega) hi ?_
    by_cases p1 : Apart (nq l i) (nq l m)
    · rw [(apart_ovl _ _ (hb i (Nat.le_refl _)) (hb m (by omega))).2 p1]
      refine Ev.step (fun _ => spec_cuGood.j4.eq_2 ..) (ev_neg (by simp) ?_)
      rw [w64 (by omega) (by omega), w64 (by omega) (by omega)]
      by_cases c : m + 1 = i
      · by_cases p2 : Lt (nq l m) (nq l i)
        · exfalso
          obtain ⟨j, h1, h2, h3⟩ := hp
          have : j = m := by omega
          subst this
          exact h3 ⟨p1, fun _ => p2⟩
        · refine ev_pos (by omega) (ev_call (cuLess_f (nq l m) (nq l i)) (ev_neg (fun h => p2 ((lt_less _ _).1 h)) (ev_some rfl)))
      · refine ev_neg (by omega) (good_fail hl a i hi hb d (m + 1) (by omega) ?_)
        obtain ⟨j, h1, h2, h3⟩ := hp
        refine ⟨j, ?_, h2, h3⟩
        rcases Nat.lt_or_ge m j with h | h
        · omega
        · have : j = m := by omega
          subst this
          exact absurd ⟨p1, fun h => absurd h c⟩ h3
    · have : ovl (nq l i) (nq l m) = true := by
        rw [← Bool.not_eq_false]
        intro h
        exact p1 ((apart_ovl _ _ (hb i (Nat.le_refl _)) (hb m (by omega))).1 h)
      rw [this]
      exact Ev.step (fun _ => spec_cuGood.j4.eq_2 ..) (ev_pos rfl (ev_some rfl))
theorem good_round (a : Int) (i : Nat) (hi : i < l.length) (hW : 1 ≤ W ∧ W ≤ 500) (hH : 1 ≤ H ∧ H ≤ 500) {r : Bool}
    (h : inBox W H (nq l i) → Ev (fun k => spec_cuGood.l1 k (wrap64 (a + wrap64 ((nq l i).f2 * (nq l i).f2))) i l l.length i (l.take i) i (0 : Nat) W H l (nq l i).f0 (nq l i).f1 (nq l i).f2) r) (hf : ¬ inBox W H (nq l i) → r = false) :
    Ev (fun k => spec_cuGood.l0 k a l l.length i W H l) r := by
  refine Ev.step (fun _ => spec_cuGood.l0.eq_2 ..) (ev_pos (by omega) (ev_pos (by omega) (ev_pos (by omega) ?_)))
  simp only [rdq]
  refine ev_call (l1In_f _ _ _) ?_
  by_cases c1 : inR (nq l i).f2 1 500 = true
  · refine ev_pos c1 (ev_call (l1In_f _ _ _) ?_)
    rw [inR_iff] at c1
    rw [w64 (by omega) (by omega)]
    by_cases c2 : inR (nq l i).f0 0 (W - (nq l i).f2) = true
    · refine ev_pos c2 ?_
      rw [w64 (by omega) (by omega)]
      refine ev_call (l1In_f _ _ _) ?_
      rw [inR_iff] at c2
      by_cases c3 : inR (nq l i).f1 0 (H - (nq l i).f2) = true
      · rw [c3]
        rw [inR_iff] at c3
        refine Ev.step (fun _ => spec_cuGood.j2.eq_2 ..) (ev_neg (by simp) (ev_pos (by omega) (ev_pos (by omega) ?_)))
        refine ev_call rfl ?_
        simp only [Int.toNat_natCast]
        have := h (by unfold inBox; omega)
        simpa [Nat.min_eq_left (Nat.le_of_lt hi)] using this
      · have : r = false := hf (fun hb => c3 (inR_iff.2 (by unfold inBox at hb; omega)))
        subst this
        rw [Bool.not_eq_true] at c3
        rw [c3]
        exact Ev.step (fun _ => spec_cuGood.j2.eq_2 ..) (ev_pos rfl (ev_some rfl))
    · have : r = false := hf (fun hb => c2 (inR_iff.2 (by unfold inBox at hb; omega)))
      subst this
      exact ev_neg c2 (Ev.step (fun _ => spec_cuGood.j2.eq_2 ..) (ev_pos rfl (ev_some rfl)))
  · have : r = false := hf (fun hb => c1 (inR_iff.2 (by unfold inBox at hb; omega)))
    subst this
    exact ev_neg c1 (Ev.step (fun _ => spec_cuGood.j2.eq_2 ..) (ev_pos rfl (ev_some rfl)))
theorem good_l0 (hl : l.length ≤ 30) (hW : 1 ≤ W ∧ W ≤ 500) (hH : 1 ≤ H ∧ H ≤ 500) : ∀ (d i : Nat), i + d = l.length → (∀ j, j < i → OkS W H l j) → Ev (fun k => spec_cuGood.l0 k (area (l.take i)) l l.length i W H l) (goodB W H l)
  | 0, i, hd, hs => by
    refine Ev.step (fun _ => spec_cuGood.l0.eq_2 ..) (ev_neg (by omega) (ev_some ?_))
    have hp : 0 ≤ W * H ∧ W * H ≤ 500 * 500 := ⟨Int.mul_nonneg (by omega) (by omega), Int.mul_le_mul hW.2 hH.2 (by omega) (by omega)⟩
    rw [w64 (by omega) (by omega), show i = l.length by omega, List.take_length, Bool.eq_iff_iff, goodB_iff, good_iff, beq_iff_eq]
    exact ⟨fun h => ⟨hW, hH, hl, fun j hj => hs j (by omega), h⟩, fun h => h.2.2.2.2⟩
  | d + 1, i, hd, hs => by
    have hnot : ¬ OkS W H l i → goodB W H l = false := fun h => by
      rw [Bool.eq_false_iff]
      intro hg
      rw [goodB_iff, good_iff] at hg
      exact h (hg.2.2.2.1 i (by omega))
    refine good_round W H l _ i (by omega) hW hH (fun hb => ?_) (fun hb => hnot (fun h => hb h.1))
    have hbb : ∀ j, j ≤ i → inBox 500 500 (nq l j) := fun j hj => by
      rcases Nat.lt_or_ge j i with h | h
      · exact inBox_mono (hs j h).1 hW.2 hH.2
      · rw [show j = i by omega]; exact inBox_mono hb hW.2 hH.2
    have ha := area_bd l 500 i (by omega) (fun j hj => by have := hbb j (by omega); unfold inBox at this; omega)
    have hq := hbb i (Nat.le_refl _)
    unfold inBox at hq
    have hsq := sq_le (a := (nq l i).f2) (m := 500) (by omega) (by omega)
    rw [w64 (e := (nq l i).f2 * (nq l i).f2) (by omega) (by omega), w64 (by omega) (by omega), ← area_take l i (by omega)]
    by_cases c : ∃ j, 0 ≤ j ∧ j < i ∧ ¬ PairOk l i j
    · rw [hnot (fun h => by obtain ⟨j, _, h2, h3⟩ := c; exact h3 (h.2 j h2))]
      exact good_fail W H l hl _ i (by omega) hbb i 0 (by omega) c
    · have hp : ∀ j, j < i → PairOk l i j := fun j hj => Classical.byContradiction fun h => c ⟨j, by omega, hj, h⟩
      refine good_pass W H l hl _ i (by omega) hbb ?_ i 0 (by omega) (fun j _ h => hp j h)
      exact good_l0 hl hW hH d (i + 1) (by omega) (fun j hj => by
        rcases Nat.lt_or_ge j i with h | h
        · exact hs j h
        · rw [show j = i by omega]; exact ⟨hb, hp⟩)
end
theorem cuGood_ev (W H : Int) (l : List Sq) (hlen : l.length ≤ 9223372036854775807) : Ev (fun k => spec_cuGood.f k W H l) (goodB W H l) := by
  have bad : ¬ ((1 ≤ W ∧ W ≤ 500) ∧ (1 ≤ H ∧ H ≤ 500) ∧ (1 ≤ l.length ∧ l.length ≤ 30)) → goodB W H l = false := fun h => by
    rw [Bool.eq_false_iff]
    intro hg
    rw [goodB_iff] at hg
    exact h ⟨hg.w, hg.h, hg.pos, hg.len⟩
  refine ev_call (l1In_f _ _ _) ?_
  by_cases c1 : inR W 1 500 = true
  · refine ev_pos c1 (ev_call (l1In_f _ _ _) ?_)
    by_cases c2 : inR H 1 500 = true
    · refine ev_pos c2 (ev_call (l1In_f _ _ _) ?_)
      rw [inR_iff] at c1 c2
      by_cases c3 : inR (l.length : Int) 1 30 = true
      · rw [c3]
        rw [inR_iff] at c3
        refine Ev.step (fun _ => spec_cuGood.j0.eq_2 ..) (ev_neg (by simp) ?_)
        have := good_l0 W H l (by omega) c1 c2 l.length 0 (by omega) (fun j hj => by omega)
        simpa [area] using this
      · have e := bad (fun h => c3 (inR_iff.2 (by omega)))
        rw [Bool.not_eq_true] at c3
        rw [c3, e]
        exact Ev.step (fun _ => spec_cuGood.j0.eq_2 ..) (ev_pos rfl (ev_some rfl))
    · rw [bad (fun h => c2 (inR_iff.2 h.2.1))]
      exact ev_neg c2 (Ev.step (fun _ => spec_cuGood.j0.eq_2 ..) (ev_pos rfl (ev_some rfl)))
  · rw [bad (fun h => c1 (inR_iff.2 h.1))]
    exact ev_neg c1 (Ev.step (fun _ => spec_cuGood.j0.eq_2 ..) (ev_pos rfl (ev_some rfl)))
end Go.Proofs.Ytnfiejagokefcaa.Pure

namespace Go.Proofs.Ytnfiejagokefcaa.LawAid
open Go.RowKit Go.Proofs.YtnfiejagokefcaaW.PrintWords Go.Proofs.YtnfiejagokefcaaW.PrintLast Go.Proofs.YtnfiejagokefcaaW.PrintMore
theorem blk3 {W : World} {g : Nat} {t : TypeId} {a b c : Value} (h : W.heap[g]? = some (.cells #[a, b, c] t (0, 0))) : W.cell? ⟨g, 0, none⟩ = some a ∧ W.cell? ⟨g, 1, none⟩ = some b ∧ W.cell? ⟨g, 2, none⟩ = some c :=
  ⟨(blk_cell h 0).trans rfl, (blk_cell h 1).trans rfl, (blk_cell h 2).trans rfl⟩
section
variable {P : World → Prop} {w W W2 : World} {α : Type} {d : Kd α} {e base : Nat} {ok : Nat → Prop} {v u : Value} {xs : List α}
theorem hs_step (hb : Below W.heap.size W W2) (h : ∀ V, Below W.heap.size W V → P V) : ∀ V, Below W2.heap.size W2 V → P V := fun V hV => h V (hb.trans (hV.mono hb.size))
theorem hs_drew (h : ∀ V, Below W.heap.size W V → P V) : ∀ V, Below W.drew.heap.size W.drew V → P V := hs_step (below_drew (Below.refl _ _)) h
theorem hs_row (ho : d.R e W base ok v xs) (h : ∀ V, Below W.heap.size W V → P V) : ∀ V, Below W.heap.size W V → d.R e V base ok v xs ∧ P V := fun V hV => ⟨Kd.R_below ho hV, h V hV⟩
theorem hs_box {cs : Array Value} {t : TypeId} (n : Nat) (hn : W.heap.size = n) (h : ∀ V, Below W.heap.size W V → P V) : ∀ V, Below (W.alloc (.cells cs t (0, 0))).heap.size (W.alloc (.cells cs t (0, 0))) V → V.heap[n]? = some (.cells cs t (0, 0)) ∧ P V :=
  fun V hV => ⟨blk_below (by rw [← hn]; exact heap_alloc_new W _) hV, hs_step (below_alloc (Below.refl _ _) _) h V hV⟩
theorem ne_new {α' : Type} {d' : Kd α'} {e' base' : Nat} {ok' : Nat → Prop} {ys : List α'} (hu : d'.R e' W base' ok' u ys) (ho : d.R e W2 W.heap.size ok v xs) : ∀ k, v.ownBlock = some k → u.ownBlock = some k → False :=
  fun k h1 h2 => Nat.lt_irrefl _ (Nat.lt_of_lt_of_le (Kd.R_lt hu k h2) (Kd.R_base ho k h1))
theorem row_tight (hE : d.E = []) (ho : d.R e W2 W.heap.size ok v xs) (hb : Below w.heap.size w W) : d.R e W2 w.heap.size (fun k => some k = v.ownBlock) v xs := Kd.R_tight hE (Kd.R_lower ho hb.size)
theorem hs_start (hb : Below w.heap.size w W) : ∀ V, Below W.heap.size W V → Below w.heap.size w V := fun V hV => hb.trans (hV.mono hb.size)
theorem fin_blk {B t : Nat} {a b c : Value} (h : W.heap[B]? = some (.cells #[a, b, c] t (0, 0))) (x y z : Value) : (((W.setCell ⟨B, 0, none⟩ x).setCell ⟨B, 1, none⟩ y).setCell ⟨B, 2, none⟩ z).heap[B]? = some (.cells #[x, y, z] t (0, 0)) :=
  blk_put (blk_put (blk_put h 0 x rfl) 1 y rfl) 2 z rfl
theorem fin_below {B : Nat} (h : Below w.heap.size w W) (hB : w.heap.size ≤ B) (x y z : Value) : Below w.heap.size w (((W.setCell ⟨B, 0, none⟩ x).setCell ⟨B, 1, none⟩ y).setCell ⟨B, 2, none⟩ z) := below_set (below_set (below_set h hB) hB) hB
theorem fin_row {B t : Nat} {cs : Array Value} (hr : d.R e W base ok v xs) (h : W.heap[B]? = some (.cells cs t (0, 0))) (ht : ∀ q, q ∈ e :: d.E → q ≠ t) (x y z : Value) : d.R e (((W.setCell ⟨B, 0, none⟩ x).setCell ⟨B, 1, none⟩ y).setCell ⟨B, 2, none⟩ z) base ok v xs :=
  Kd.R_mono (Kd.R_far (p := ⟨B, 2, none⟩) (Kd.R_far (p := ⟨B, 1, none⟩) (Kd.R_far (p := ⟨B, 0, none⟩) (Kd.R_types hr h ht) (fun _ hk => hk.2) x) (fun _ hk => hk.2) y) (fun _ hk => hk.2) z) (fun _ hk => hk.1)
end
end Go.Proofs.Ytnfiejagokefcaa.LawAid

namespace Go.Proofs.Ytnfiejagokefcaa.P
open Go.RowKit Go.Proofs.YtnfiejagokefcaaW.PrintWords Go.Proofs.YtnfiejagokefcaaW.PrintLast Go.Proofs.YtnfiejagokefcaaW.PrintMore
attribute [local go_sem] max2_int min2_int max_two min_two max_three min_three max_four min_four
set_option linter.unusedVariables false
set_option linter.unusedSimpArgs false
open Go.Proofs.Ytnfiejagokefcaa.T Go.Proofs.Ytnfiejagokefcaa.Aid Go.Proofs.Ytnfiejagokefcaa.LawAid
set_option maxHeartbeats 1000000 in
theorem turned_clo (q : Sq) (B : Nat) (m : Int) (V : World) (h1 : V.cell? ⟨B, 1, none⟩ = some (.int .i64 m)) :
    Calls Try.prog 71 #[.agg #[.int .i64 q.f0, .int .i64 q.f1, .int .i64 q.f2], .pointer (some ⟨B, 0, none⟩)] V fun e w' => e = .returned (.agg #[.int .i64 (wrap64 (wrap64 (m - q.f1) - q.f2)), .int .i64 q.f0, .int .i64 q.f2]) ∧ Below V.heap.size V w' := by
  have hu := Try.underlying61
  have k1 := ((below_alloc (below_alloc (Below.refl V.heap.size V) (.cells #[.int .i64 q.f0, .int .i64 q.f1, .int .i64 q.f2] 61)) (.cells #[.int .i64 0, .int .i64 0, .int .i64 0] 61)).cell (World.block_lt_of_cell? V _ h1)).trans h1
  have HX := Aside0.mk (heap_alloc_new (V.alloc (.cells #[.int .i64 q.f0, .int .i64 q.f1, .int .i64 q.f2] 61)) (.cells #[.int .i64 (wrap64 (wrap64 (m - q.f1) - q.f2)), .int .i64 q.f0, .int .i64 q.f2] 61))
  rw [show (V.alloc (.cells #[.int .i64 q.f0, .int .i64 q.f1, .int .i64 q.f2] 61)).heap.size = V.heap.size + 1 from by simp] at HX
  clear h1
  go_enter Try.func71, Try.ntmps71
  go_wp2_with fail
  refine bodyPost_ret (results_cell_row rfl _ _ (V.heap.size + 1) 61 #[.int .i64 (wrap64 (wrap64 (m - q.f1) - q.f2)), .int .i64 q.f0, .int .i64 q.f2] (0, 0) _ rfl HX.out Try.underlying61 rfl (by kernel_rfl)) rfl ?_
  exact ⟨rfl, below_alloc (below_alloc (Below.refl _ _) _) _⟩
def impl_Cut_turned.f (a0_0 a0_1 : Int) (l0_2 : List Sq) : Option (Int × Int × List Sq) := if isCutB a0_0 a0_1 l0_2 = true then some (a0_1, a0_0, turnL a0_1 l0_2) else none
set_option maxHeartbeats 4000000 in
theorem impl_Cut_turned.calls (a0_0 a0_1 : Int) (A0_2 : Option Addr) (c0_2 : Nat) (l0_2 : List Sq) (r1 r2 : Int) (r3 : List Sq) (w : World) (hr0_2 : Kd.C k61 w A0_2 l0_2.length l0_2) (hc0_2 : l0_2.length ≤ c0_2) (h : impl_Cut_turned.f a0_0 a0_1 l0_2 = some (r1, r2, r3)) :
    Calls Try.prog 57 #[.agg #[.int .i64 a0_0, .int .i64 a0_1, .slice A0_2 l0_2.length c0_2]] w fun e w' => ∃ v2_ : Value, e = .returned (.agg #[.int .i64 r1, .int .i64 r2, v2_]) ∧ Kd.R k61 61 w' w.heap.size (fun _ => True) v2_ r3 ∧ Below w.heap.size w w' := by
  unfold impl_Cut_turned.f at h
  by_cases hg : isCutB a0_0 a0_1 l0_2 = true
  · rw [if_pos hg] at h
    have g : Go.Proofs.Ytnfiejagokefcaa.T.Good a0_0 a0_1 l0_2 := goodB_iff.1 (by rw [← Go.Proofs.Ytnfiejagokefcaa.Pure.isCutB_good]; exact hg)
    obtain ⟨rfl, rfl, h3⟩ : a0_1 = r1 ∧ a0_0 = r2 ∧ turnL a0_1 l0_2 = r3 := by simpa using h
    have H3 := Aside0.mk h3
    have hw := g.w
    have hh := g.h
    have hbox : ∀ q ∈ l0_2, inBox a0_0 a0_1 q := g.box
    have HX := Aside0.mk (heap_alloc_new (w.alloc (.cells #[.int .i64 a0_0, .int .i64 a0_1, .slice A0_2 l0_2.length c0_2] 31)) (.cells #[.int .i64 0, .int .i64 0, .slice none 0 0] 31))
    rw [show (w.alloc (.cells #[.int .i64 a0_0, .int .i64 a0_1, .slice A0_2 l0_2.length c0_2] 31)).heap.size = w.heap.size + 1 from by simp] at HX
    have HY := Aside0.mk (blk_alloc (heap_alloc_new w (.cells #[.int .i64 a0_0, .int .i64 a0_1, .slice A0_2 l0_2.length c0_2] 31)) (.cells #[.int .i64 0, .int .i64 0, .slice none 0 0] 31))
    have HB := Aside0.mk (below_alloc (below_alloc (Below.refl w.heap.size w) (.cells #[.int .i64 a0_0, .int .i64 a0_1, .slice A0_2 l0_2.length c0_2] 31)) (.cells #[.int .i64 0, .int .i64 0, .slice none 0 0] 31))
    have HCALL := Aside0.mk (changed_calls a0_0 a0_1 a0_1 a0_0 A0_2 c0_2 l0_2 71 #[.pointer (some ⟨w.heap.size, 0, none⟩)] (turnS a0_1) _ (Kd.C_below hr0_2 HB.out) hc0_2 g.pos (Nat.le_trans g.len (by omega)) (fun q hq => by
      have hb := hbox q hq
      unfold inBox at hb
      refine okQ_iff.2 ?_
      unfold turnS
      simp only
      omega) g.turn.lt (enters_of Try.func71 (by kernel_rfl) rfl) (fun V q hV hq => by
      have hb := hbox q hq
      unfold inBox at hb
      have hc := turned_clo q w.heap.size a0_1 V ((blk_cell (blk_below HY.out hV) 1).trans rfl)
      have e : wrap64 (wrap64 (a0_1 - q.f1) - q.f2) = a0_1 - q.f1 - q.f2 := by rw [w64 (e := a0_1 - q.f1) (by omega) (by omega), w64 (e := a0_1 - q.f1 - q.f2) (by omega) (by omega)]
      rw [e] at hc
      exact hc))
    have hu2 := Try.underlying31
    clear h h3 g hw hh hbox hr0_2 hc0_2 hg
    go_enter Try.func57, Try.ntmps57
    go_wp2_with (go_at_call 66; refine HCALL.out.mono ?_; rintro e w1 ⟨v, rfl, ho, hb⟩; obtain ⟨A1, c1, e1⟩ := Kd.R_slice ho; subst e1; have HR := Aside0.mk (Kd.R_lower ho HB.out.size); have HB1 := Aside0.mk (below_step HB.out hb); have HX1 := Aside0.mk (blk_below HX.out hb); have n0 : w1.cell? ⟨w.heap.size + 1, 0, none⟩ = some (.int .i64 0) := (blk_cell HX1.out 0).trans rfl; have n1 : w1.cell? ⟨w.heap.size + 1, 1, none⟩ = some (.int .i64 0) := (blk_cell HX1.out 1).trans rfl; have n2 : w1.cell? ⟨w.heap.size + 1, 2, none⟩ = some (.slice none 0 0) := (blk_cell HX1.out 2).trans rfl; have f0 := blk_frozen HX1.out 0; have f1 := blk_frozen HX1.out 1; have f2 := blk_frozen HX1.out 2; clear ho hb)
    refine bodyPost_ret (results_cell_row rfl _ _ (w.heap.size + 1) 31 _ (0, 0) _ rfl (fin_blk HX1.out _ _ _) Try.underlying31 rfl (by kernel_rfl)) rfl ?_
    exact ⟨_, rfl, by rw [← H3.out]; exact fin_row HR.out HX1.out (by decide) _ _ _, fin_below HB1.out (Nat.le_succ _) _ _ _⟩
  · rw [if_neg hg] at h; cases h
end Go.Proofs.Ytnfiejagokefcaa.P

namespace Go.Proofs.Ytnfiejagokefcaa.P
open Go.RowKit Go.Proofs.YtnfiejagokefcaaW.PrintWords Go.Proofs.YtnfiejagokefcaaW.PrintLast Go.Proofs.YtnfiejagokefcaaW.PrintMore
attribute [local go_sem] max2_int min2_int max_two min_two max_three min_three max_four min_four
set_option linter.unusedVariables false
set_option linter.unusedSimpArgs false
def impl_Cut_back.f (a0_0 : Int) (a0_1 : Int) (l0_2 : List (S61)) : Option (Int × Int × (List (S61))) := (impl_Cut_turned.f a0_0 a0_1 l0_2).bind fun bt103 => ((impl_Cut_turned.f bt103.1 bt103.2.1 bt103.2.2).bind fun bt108 => ((impl_Cut_turned.f bt108.1 bt108.2.1 bt108.2.2).bind fun bt113 => (some (bt113.1, bt113.2.1, bt113.2.2))))
set_option maxHeartbeats 8000000 in
set_option maxRecDepth 100000 in
theorem impl_Cut_back.calls (a0_0 : Int) (a0_1 : Int) (A0_2 : Option Addr) (c0_2 : Nat) (l0_2 : List (S61)) (r1 : Int) (r2 : Int) (r3 : List (S61)) (w : World) (hr0_2 : Kd.C k61 w A0_2 l0_2.length l0_2) (hc0_2 : l0_2.length ≤ c0_2) (h : impl_Cut_back.f a0_0 a0_1 l0_2 = some (r1, r2, r3)) :
    Calls Try.prog 34 #[.agg #[.int .i64 a0_0, .int .i64 a0_1, .slice A0_2 l0_2.length c0_2]] w fun e w' => ∃ v2_ : Value, e = .returned (.agg #[.int .i64 r1, .int .i64 r2, v2_]) ∧ Kd.R k61 61 w' w.heap.size (fun _ => True) v2_ r3 ∧ Below w.heap.size w w' := by
  have hu31 := Try.underlying31
  have HR0_2 := Aside0.mk hr0_2
  have HC0_2 := Aside0.mk hc0_2
  clear hr0_2 hc0_2
  have HB := Aside0.mk (Below.refl w.heap.size w)
  have H : ((impl_Cut_turned.f a0_0 a0_1 l0_2).bind fun bt103 => ((impl_Cut_turned.f bt103.1 bt103.2.1 bt103.2.2).bind fun bt108 => ((impl_Cut_turned.f bt108.1 bt108.2.1 bt108.2.2).bind fun bt113 => (some (bt113.1, bt113.2.1, bt113.2.2))))) = some (r1, r2, r3) := h
  clear h
  replace H := Option.bind_eq_some_iff.mp H
  obtain ⟨⟨t103, t104, t105⟩, A20, H⟩ := H
  replace H : ((impl_Cut_turned.f t103 t104 t105).bind fun bt108 => ((impl_Cut_turned.f bt108.1 bt108.2.1 bt108.2.2).bind fun bt113 => (some (bt113.1, bt113.2.1, bt113.2.2)))) = some (r1, r2, r3) := H
  have A2 := Aside0.mk A20
  clear A20
  replace H := Option.bind_eq_some_iff.mp H
  obtain ⟨⟨t108, t109, t110⟩, A30, H⟩ := H
  replace H : ((impl_Cut_turned.f t108 t109 t110).bind fun bt113 => (some (bt113.1, bt113.2.1, bt113.2.2))) = some (r1, r2, r3) := H
  have A3 := Aside0.mk A30
  clear A30
  replace H := Option.bind_eq_some_iff.mp H
  obtain ⟨⟨t113, t114, t115⟩, A40, H⟩ := H
  replace H : (some (t113, t114, t115)) = some (r1, r2, r3) := H
  have A4 := Aside0.mk A40
  clear A40
  simp only [Option.some.injEq, Prod.mk.injEq] at H
  obtain ⟨rfl, rfl, rfl⟩ := H
  go_enter Try.func34, Try.ntmps34
  go_wp2_with (first | ((with_reducible refine gate_dst (N := 1) rfl ?_); refine box_event ?hg (N := 1) ?hd (cs := #[.int .i64 a0_0, .int .i64 a0_1, .slice A0_2 l0_2.length c0_2]) (t := 31) ?hr ?_; (case hd => rfl); (case hg => rfl); (case hr => first | (go_simp; done) | (go_simp; rfl)); intro gb101 hg w5 hbox hb; have n0_ := Aside0.mk (below_step (by repeat (first | (with_reducible first | exact HB.out | apply below_alloc | apply pw_below_drewN | apply below_drew1) | exact HB.out)) hb); have n1_ := Aside0.mk (hbox); have n2_ := Aside0.mk ((by rw [hg]; exact (below_size (by repeat (first | (with_reducible first | exact HB.out | apply below_alloc | apply pw_below_drewN | apply below_drew1) | exact HB.out))) : w.heap.size ≤ gb101)); have n3_ := Aside0.mk ((by rw [hg]; exact (below_size (by repeat (first | (with_reducible first | exact HB.out | apply below_alloc | apply pw_below_drewN | apply below_drew1) | exact HB.out))) : w.heap.size ≤ gb101)); clear HB; have HB := n0_; have BK101 := n1_; have GW101 := n2_; have GE101 := n3_; clear n0_ n1_ n2_ n3_; clear hb hbox hg) | ((with_reducible refine gate_dst (N := 2) rfl ?_); refine box_event ?hg (N := 2) ?hd (cs := #[.int .i64 0, .int .i64 0, .slice none 0 0]) (t := 31) ?hr ?_; (case hd => rfl); (case hg => rfl); (case hr => first | (go_simp; done) | (go_simp; rfl)); intro gb102 hg w6 hbox hb; have n0_ := Aside0.mk (blk_below (g := gb101) (o := .cells #[.int .i64 a0_0, .int .i64 a0_1, .slice A0_2 l0_2.length c0_2] 31 (0, 0)) (by (with_reducible repeat (first | refine blk_drewN ?_ _ | refine blk_drew ?_ | refine blk_alloc ?_ _)); exact BK101.out) hb); have n1_ := Aside0.mk (below_step (by repeat (first | (with_reducible first | exact HB.out | apply below_alloc | apply pw_below_drewN | apply below_drew1 | refine below_set ?_ GE101.out) | exact HB.out)) hb); have n2_ := Aside0.mk (hbox); have n3_ := Aside0.mk ((by rw [hg]; exact (below_size (by repeat (first | (with_reducible first | exact HB.out | apply below_alloc | apply pw_below_drewN | apply below_drew1 | refine below_set ?_ GE101.out) | exact HB.out))) : w.heap.size ≤ gb102)); have n4_ := Aside0.mk ((by rw [hg]; exact (below_size (by repeat (first | (with_reducible first | exact HB.out | apply below_alloc | apply pw_below_drewN | apply below_drew1 | refine below_set ?_ GE101.out) | exact HB.out))) : w.heap.size ≤ gb102)); have n5_ := Aside0.mk ((by rw [hg]; exact Nat.ne_of_lt (blk_lt (g := gb101) (o := .cells #[.int .i64 a0_0, .int .i64 a0_1, .slice A0_2 l0_2.length c0_2] 31 (0, 0)) (by (with_reducible repeat (first | refine blk_drewN ?_ _ | refine blk_drew ?_ | refine blk_alloc ?_ _)); exact BK101.out)) : gb101 ≠ gb102)); have n6_ := Aside0.mk ((by rw [hg]; exact Nat.ne_of_gt (blk_lt (g := gb101) (o := .cells #[.int .i64 a0_0, .int .i64 a0_1, .slice A0_2 l0_2.length c0_2] 31 (0, 0)) (by (with_reducible repeat (first | refine blk_drewN ?_ _ | refine blk_drew ?_ | refine blk_alloc ?_ _)); exact BK101.out)) : gb102 ≠ gb101)); clear BK101; clear HB; have BK101 := n0_; have HB := n1_; have BK102 := n2_; have GW102 := n3_; have GE102 := n4_; have NB101_102 := n5_; have NB102_101 := n6_; clear n0_ n1_ n2_ n3_ n4_ n5_ n6_; clear hb hbox hg; have hnb7 := NB101_102.out; have hnc7 := NB102_101.out; have hcz8_0 : w6.cell? ⟨gb101, 0, none⟩ = some (.int .i64 a0_0) := (blk_cell BK101.out 0).trans rfl; have hcz8_1 : w6.cell? ⟨gb101, 1, none⟩ = some (.int .i64 a0_1) := (blk_cell BK101.out 1).trans rfl; have hcz8_2 : w6.cell? ⟨gb101, 2, none⟩ = some (.slice A0_2 l0_2.length c0_2) := (blk_cell BK101.out 2).trans rfl; have hfz8_0 := blk_frozen BK101.out 0; have hfz8_1 := blk_frozen BK101.out 1; have hfz8_2 := blk_frozen BK101.out 2) | ((with_reducible refine gate_callee (f := 57) rfl ?_); refine goesL_ (some 4) rfl rfl Try.func57 (by kernel_rfl) rfl #[.agg #[.int .i64 a0_0, .int .i64 a0_1, .slice A0_2 l0_2.length c0_2]] rfl (by (try simp only [List.map_toArray, List.map_cons, List.map_nil]); first | done | rfl | (simp only [List.length_drop, List.length_take]; rfl)) ?_; (with_reducible refine (impl_Cut_turned.calls a0_0 a0_1 _ _ l0_2 t103 t104 t105 _ ?side1 ?side2 A2.out).mono ?_); (case side1 => repeat (first | exact (Kd.C_below HR0_2.out HB.out) | (with_reducible refine Kd.C_alloc ?_ _) | (with_reducible refine Kd.C_drewN ?_ _) | (with_reducible refine Kd.C_drew ?_))); (case side2 => exact HC0_2.out); rintro e w9 ⟨v106, rfl, ho0, hb⟩; refine ⟨_, rfl, ?_⟩; have n0_ := Aside0.mk (Kd.R_lower ho0 (below_size (by repeat (first | (with_reducible first | exact HB.out | apply below_alloc | apply pw_below_drewN | apply below_drew1 | refine below_set ?_ GE101.out | refine below_set ?_ GE102.out) | exact HB.out)))); have n1_ := Aside0.mk (blk_below (g := gb101) (o := .cells #[.int .i64 a0_0, .int .i64 a0_1, .slice A0_2 l0_2.length c0_2] 31 (0, 0)) (by (with_reducible repeat (first | refine blk_drewN ?_ _ | refine blk_drew ?_ | refine blk_alloc ?_ _)); exact BK101.out) hb); have n2_ := Aside0.mk (blk_below (g := gb102) (o := .cells #[.int .i64 0, .int .i64 0, .slice none 0 0] 31 (0, 0)) (by (with_reducible repeat (first | refine blk_drewN ?_ _ | refine blk_drew ?_ | refine blk_alloc ?_ _)); exact BK102.out) hb); have n3_ := Aside0.mk (below_step (by repeat (first | (with_reducible first | exact HB.out | apply below_alloc | apply pw_below_drewN | apply below_drew1 | refine below_set ?_ GE101.out | refine below_set ?_ GE102.out) | exact HB.out)) hb); clear BK101; clear BK102; clear HB; have HO107 := n0_; have BK101 := n1_; have BK102 := n2_; have HB := n3_; clear n0_ n1_ n2_ n3_; (try clear hb); (try clear hb2); (try clear hk); (try clear hi); (try clear ho0); obtain ⟨Ao10, co10, eo10⟩ := Kd.R_slice HO107.out; subst eo10) | ((with_reducible refine gate_callee (f := 57) rfl ?_); refine goesL_ (some 5) rfl rfl Try.func57 (by kernel_rfl) rfl #[.agg #[.int .i64 t103, .int .i64 t104, .slice Ao10 t105.length co10]] rfl (by (try simp only [List.map_toArray, List.map_cons, List.map_nil]); first | done | rfl | (simp only [List.length_drop, List.length_take]; rfl)) ?_; (with_reducible refine (impl_Cut_turned.calls t103 t104 _ _ t105 t108 t109 t110 _ ?side1 ?side2 A3.out).mono ?_); (case side1 => repeat (first | exact (Kd.R_reads' HO107.out).2.2 | (with_reducible refine Kd.C_alloc ?_ _) | (with_reducible refine Kd.C_drewN ?_ _) | (with_reducible refine Kd.C_drew ?_))); (case side2 => exact (Kd.R_reads' HO107.out).2.1); rintro e w11 ⟨v111, rfl, ho0, hb⟩; refine ⟨_, rfl, ?_⟩; have n0_ := Aside0.mk (Kd.R_elder' (by (with_reducible repeat (first | apply Kd.R_alloc | apply Kd.R_drewN | apply Kd.R_drew)); exact HO107.out) (Kd.R_base ho0) hb); have n1_ := Aside0.mk (Kd.R_lower (Kd.R_new' ho0 (Kd.R_lt (by (with_reducible repeat (first | apply Kd.R_alloc | apply Kd.R_drewN | apply Kd.R_drew)); exact HO107.out))) (below_size (by repeat (first | (with_reducible first | exact HB.out | apply below_alloc | apply pw_below_drewN | apply below_drew1 | refine below_set ?_ GE101.out | refine below_set ?_ GE102.out) | exact HB.out)))); have n2_ := Aside0.mk (blk_below (g := gb101) (o := .cells #[.int .i64 a0_0, .int .i64 a0_1, .slice A0_2 l0_2.length c0_2] 31 (0, 0)) (by (with_reducible repeat (first | refine blk_drewN ?_ _ | refine blk_drew ?_ | refine blk_alloc ?_ _)); exact BK101.out) hb); have n3_ := Aside0.mk (blk_below (g := gb102) (o := .cells #[.int .i64 0, .int .i64 0, .slice none 0 0] 31 (0, 0)) (by (with_reducible repeat (first | refine blk_drewN ?_ _ | refine blk_drew ?_ | refine blk_alloc ?_ _)); exact BK102.out) hb); have n4_ := Aside0.mk (below_step (by repeat (first | (with_reducible first | exact HB.out | apply below_alloc | apply pw_below_drewN | apply below_drew1 | refine below_set ?_ GE101.out | refine below_set ?_ GE102.out) | exact HB.out)) hb); clear HO107; clear BK101; clear BK102; clear HB; have HO107 := n0_; have HO112 := n1_; have BK101 := n2_; have BK102 := n3_; have HB := n4_; clear n0_ n1_ n2_ n3_ n4_; (try clear hb); (try clear hb2); (try clear hk); (try clear hi); (try clear ho0); obtain ⟨Ao12, co12, eo12⟩ := Kd.R_slice HO112.out; subst eo12) | ((with_reducible refine gate_callee (f := 57) rfl ?_); refine goesL_ (some 6) rfl rfl Try.func57 (by kernel_rfl) rfl #[.agg #[.int .i64 t108, .int .i64 t109, .slice Ao12 t110.length co12]] rfl (by (try simp only [List.map_toArray, List.map_cons, List.map_nil]); first | done | rfl | (simp only [List.length_drop, List.length_take]; rfl)) ?_; (with_reducible refine (impl_Cut_turned.calls t108 t109 _ _ t110 t113 t114 t115 _ ?side1 ?side2 A4.out).mono ?_); (case side1 => repeat (first | exact (Kd.R_reads' HO112.out).2.2 | (with_reducible refine Kd.C_alloc ?_ _) | (with_reducible refine Kd.C_drewN ?_ _) | (with_reducible refine Kd.C_drew ?_))); (case side2 => exact (Kd.R_reads' HO112.out).2.1); rintro e w13 ⟨v116, rfl, ho0, hb⟩; refine ⟨_, rfl, ?_⟩; have n0_ := Aside0.mk (Kd.R_elder' (by (with_reducible repeat (first | apply Kd.R_alloc | apply Kd.R_drewN | apply Kd.R_drew)); exact HO107.out) (Kd.R_base ho0) hb); have n1_ := Aside0.mk (Kd.R_elder' (by (with_reducible repeat (first | apply Kd.R_alloc | apply Kd.R_drewN | apply Kd.R_drew)); exact HO112.out) (Kd.R_base ho0) hb); have n2_ := Aside0.mk (Kd.R_lower (Kd.R_new' (Kd.R_new' ho0 (Kd.R_lt (by (with_reducible repeat (first | apply Kd.R_alloc | apply Kd.R_drewN | apply Kd.R_drew)); exact HO107.out))) (Kd.R_lt (by (with_reducible repeat (first | apply Kd.R_alloc | apply Kd.R_drewN | apply Kd.R_drew)); exact HO112.out))) (below_size (by repeat (first | (with_reducible first | exact HB.out | apply below_alloc | apply pw_below_drewN | apply below_drew1 | refine below_set ?_ GE101.out | refine below_set ?_ GE102.out) | exact HB.out)))); have n3_ := Aside0.mk (blk_below (g := gb101) (o := .cells #[.int .i64 a0_0, .int .i64 a0_1, .slice A0_2 l0_2.length c0_2] 31 (0, 0)) (by (with_reducible repeat (first | refine blk_drewN ?_ _ | refine blk_drew ?_ | refine blk_alloc ?_ _)); exact BK101.out) hb); have n4_ := Aside0.mk (blk_below (g := gb102) (o := .cells #[.int .i64 0, .int .i64 0, .slice none 0 0] 31 (0, 0)) (by (with_reducible repeat (first | refine blk_drewN ?_ _ | refine blk_drew ?_ | refine blk_alloc ?_ _)); exact BK102.out) hb); have n5_ := Aside0.mk (below_step (by repeat (first | (with_reducible first | exact HB.out | apply below_alloc | apply pw_below_drewN | apply below_drew1 | refine below_set ?_ GE101.out | refine below_set ?_ GE102.out) | exact HB.out)) hb); clear HO107; clear HO112; clear BK101; clear BK102; clear HB; have HO107 := n0_; have HO112 := n1_; have HO117 := n2_; have BK101 := n3_; have BK102 := n4_; have HB := n5_; clear n0_ n1_ n2_ n3_ n4_ n5_; (try clear hb); (try clear hb2); (try clear hk); (try clear hi); (try clear ho0); have hcz14_0 : w13.cell? ⟨gb102, 0, none⟩ = some (.int .i64 0) := (blk_cell BK102.out 0).trans rfl; have hcz14_1 : w13.cell? ⟨gb102, 1, none⟩ = some (.int .i64 0) := (blk_cell BK102.out 1).trans rfl; have hcz14_2 : w13.cell? ⟨gb102, 2, none⟩ = some (.slice none 0 0) := (blk_cell BK102.out 2).trans rfl; have hfz14_0 := blk_frozen BK102.out 0; have hfz14_1 := blk_frozen BK102.out 1; have hfz14_2 := blk_frozen BK102.out 2; obtain ⟨Ao15, co15, eo15⟩ := Kd.R_slice HO117.out; subst eo15))
  refine bodyPost_ret (results_cell_row rfl _ _ gb102 31 #[.int .i64 t113, .int .i64 t114, .slice Ao15 t115.length co15] (0, 0) _ rfl (by (with_reducible repeat (first | refine blk_drewN ?_ _ | refine blk_drew ?_ | refine blk_alloc ?_ _)); refine blk_put (cs := #[.int .i64 t113, .int .i64 t114, .slice none 0 0]) ?_ 2 _ rfl; (with_reducible repeat (first | refine blk_drewN ?_ _ | refine blk_drew ?_ | refine blk_alloc ?_ _)); refine blk_put (cs := #[.int .i64 t113, .int .i64 0, .slice none 0 0]) ?_ 1 _ rfl; (with_reducible repeat (first | refine blk_drewN ?_ _ | refine blk_drew ?_ | refine blk_alloc ?_ _)); refine blk_put (cs := #[.int .i64 0, .int .i64 0, .slice none 0 0]) ?_ 0 _ rfl; (with_reducible repeat (first | refine blk_drewN ?_ _ | refine blk_drew ?_ | refine blk_alloc ?_ _)); exact BK102.out) Try.underlying31 rfl (by kernel_rfl)) rfl ?_
  exact ⟨_, by first | rfl | (simp [errW_none, errW_some] <;> rfl) | (simp [*, errW_none, errW_some] <;> rfl), by (with_reducible repeat (first | apply Kd.R_alloc | apply Kd.R_drewN | apply Kd.R_drew)); exact Kd.R_mono (Kd.R_far (p := ⟨gb102, 2, none⟩) (Kd.R_far (p := ⟨gb102, 1, none⟩) (Kd.R_far (p := ⟨gb102, 0, none⟩) (Kd.R_types HO117.out BK102.out (by decide)) (fun _ hk => hk.2) (.int .i64 t113)) (fun _ hk => hk.2) (.int .i64 t114)) (fun _ hk => hk.2) (.slice Ao15 t115.length co15)) (fun _ hk => trivial), by repeat (first | (with_reducible first | exact HB.out | apply below_alloc | apply pw_below_drewN | apply below_drew1 | refine below_set ?_ GE101.out | refine below_set ?_ GE102.out) | exact HB.out)⟩
end Go.Proofs.Ytnfiejagokefcaa.P

namespace Go.Proofs.Ytnfiejagokefcaa.P
open Go.RowKit Go.Proofs.YtnfiejagokefcaaW.PrintWords Go.Proofs.YtnfiejagokefcaaW.PrintLast Go.Proofs.YtnfiejagokefcaaW.PrintMore
attribute [local go_sem] max2_int min2_int max_two min_two max_three min_three max_four min_four
set_option linter.unusedVariables false
set_option linter.unusedSimpArgs false
open Go.Proofs.Ytnfiejagokefcaa.T Go.Proofs.Ytnfiejagokefcaa.Aid
def lineOk (l : List Sq) (x : Int) : Bool := !(l.any fun q => decide (q.f0 < x) && decide (x < wrap64 (q.f0 + q.f2)))
def linesTo (l : List Sq) : Nat → List Int
  | 0 => []
  | n + 1 => linesTo l n ++ if lineOk l (n + 1 : Nat) = true then [((n + 1 : Nat) : Int)] else []
theorem linesTo_len (l : List Sq) : ∀ n, (linesTo l n).length ≤ n
  | 0 => Nat.le_refl _
  | n + 1 => by
    have := linesTo_len l n
    simp only [linesTo, List.length_append]
    split <;> simp <;> omega
theorem lines_clo (q : Sq) (x : Int) (B : Nat) (w : World) (hc : w.cell? ⟨B, 0, none⟩ = some (.int .i64 x)) (hB : B < w.heap.size) :
    Calls Try.prog 58 #[.agg #[.int .i64 q.f0, .int .i64 q.f1, .int .i64 q.f2], .pointer (some ⟨B, 0, none⟩)] w fun e w' => e = .returned (.bool (decide (q.f0 < x) && decide (x < wrap64 (q.f0 + q.f2)))) ∧ Below w.heap.size w w' := by
  have hne : B ≠ w.heap.size := by omega
  have hu := Try.underlying61
  by_cases c1 : q.f0 < x
  · have c1z : decide (q.f0 < x) = true := decide_eq_true c1
    have HE : Aside0 ((decide (q.f0 < x) && decide (x < wrap64 (q.f0 + q.f2))) = decide (x < wrap64 (q.f0 + q.f2))) := ⟨by rw [c1z]; rfl⟩
    rw [HE.out]
    clear HE
    go_enter Try.func58, Try.ntmps58
    go_wp2_with fail
    go_ret
    exact ⟨rfl, (Below.refl _ _).alloc (Nat.le_refl _) _⟩
  · have c1z : decide (q.f0 < x) = false := decide_eq_false c1
    have HE : Aside0 ((decide (q.f0 < x) && decide (x < wrap64 (q.f0 + q.f2))) = false) := ⟨by rw [c1z]; rfl⟩
    rw [HE.out]
    clear HE
    go_enter Try.func58, Try.ntmps58
    go_wp2_with fail
    go_ret
    exact ⟨rfl, (Below.refl _ _).alloc (Nat.le_refl _) _⟩
theorem lines_next {w V : World} {B : Nat} {v : Value} {ls : List Int} {y : Int} {cut : Obj} (hbe : Below w.heap.size w V) (ht : V.heap[w.heap.size]? = some cut) (hr : Kd.R (Kd.int .i64) 3 V w.heap.size (fun k => k ≠ B) v ls) :
    (V.alloc (.cells #[.int .i64 y] 3)).heap[V.heap.size]? = some (.cells #[.int .i64 y] 3 (0, 0)) ∧ (V.alloc (.cells #[.int .i64 y] 3)).heap[w.heap.size]? = some cut ∧
    Kd.R (Kd.int .i64) 3 (V.alloc (.cells #[.int .i64 y] 3)) w.heap.size (fun k => k ≠ V.heap.size) v ls ∧ Below w.heap.size w (V.alloc (.cells #[.int .i64 y] 3)) := by
  have h1 : Kd.R (Kd.int .i64) 3 V w.heap.size (fun k => k ≠ V.heap.size) v ls := Kd.R_mono (Kd.R_bound hr) (fun k hk => Nat.ne_of_lt hk.2.2.1)
  exact ⟨heap_alloc_new V _, blk_alloc ht _, Kd.R_alloc h1 _, hbe.alloc hbe.size _⟩
def impl_Cut_linesDown.f (a0_0 : Int) (a0_1 : Int) (l0_2 : List Sq) : Option (List Int) := if 1 ≤ a0_0 ∧ a0_0 ≤ 1000 then some (linesTo l0_2 (a0_0.toNat - 1)) else none
set_option maxHeartbeats 4000000 in
set_option maxRecDepth 100000 in
theorem impl_Cut_linesDown.calls (a0_0 : Int) (a0_1 : Int) (A0_2 : Option Addr) (c0_2 : Nat) (l0_2 : List Sq) (r : List Int) (w : World) (hr0_2 : Kd.C k61 w A0_2 l0_2.length l0_2) (hc0_2 : l0_2.length ≤ c0_2) (h : impl_Cut_linesDown.f a0_0 a0_1 l0_2 = some r) :
    Calls Try.prog 35 #[.agg #[.int .i64 a0_0, .int .i64 a0_1, .slice A0_2 l0_2.length c0_2]] w fun e w' => ∃ v0_ : Value, e = .returned v0_ ∧ Kd.R (Kd.int .i64) 3 w' w.heap.size (fun _ => True) v0_ r ∧ Below w.heap.size w w' := by
  unfold impl_Cut_linesDown.f at h
  by_cases hr : 1 ≤ a0_0 ∧ a0_0 ≤ 1000
  · rw [if_pos hr] at h
    obtain ⟨W, rfl⟩ : ∃ W : Nat, a0_0 = W := ⟨a0_0.toNat, by omega⟩
    rw [Int.toNat_natCast] at h
    have HRES := Aside0.mk (Option.some.inj h)
    have HC := Aside0.mk hr0_2
    have eg : ∀ args w, (callFunc 58 args).run Try.prog w = .ok (.enter 58 args) w := enters_of Try.func58 (by kernel_rfl) rfl
    have HCF : Aside0 (∀ (V : World) (B : Nat) (x : Int), Below w.heap.size w V → V.heap[B]? = some (.cells #[.int .i64 x] 3 (0, 0)) → Calls Try.prog 54 #[.slice A0_2 l0_2.length c0_2, .func (.func 58) #[] #[.pointer (some ⟨B, 0, none⟩)]] V fun e w' => e = .returned (.bool (!lineOk l0_2 x)) ∧ Below V.heap.size V w') := ⟨fun V B x hV hB => by
      have hBV := blk_lt hB
      have he : (!lineOk l0_2 x) = l0_2.any fun q => decide (q.f0 < x) && decide (x < wrap64 (q.f0 + q.f2)) := by unfold lineOk; rw [Bool.not_not]
      rw [he]
      refine slices_ContainsFunc_sq l0_2 A0_2 c0_2 58 _ (fun q => decide (q.f0 < x) && decide (x < wrap64 (q.f0 + q.f2))) V (Kd.C_below hr0_2 hV) hc0_2 eg (fun V' q hV' => ?_)
      refine (lines_clo q x B V' ((hV'.cell (p := ⟨B, 0, none⟩) hBV).trans ((blk_cell hB 0).trans rfl)) (Nat.lt_of_lt_of_le hBV hV'.size)).mono ?_
      rintro e w' ⟨rfl, hb'⟩
      exact ⟨rfl, hV'.trans (hb'.mono hV'.size)⟩⟩
    clear h hr0_2
    have hu2 := Try.underlying31
    go_enter Try.func35, Try.ntmps35
    go_wp2_with fail
    go_loopg [3, 4] W (fun kq v3 v4 wc => ∃ (n B : Nat), n + 1 ≤ W ∧ W - (n + 1) ≤ kq ∧ v4 = .pointer (some ⟨B, 0, none⟩) ∧ Aside0 (wc.heap[B]? = some (.cells #[.int .i64 ((n + 1 : Nat) : Int)] 3 (0, 0))) ∧ Aside0 (wc.heap[w.heap.size]? = some (.cells #[.int .i64 (W : Int), .int .i64 a0_1, .slice A0_2 l0_2.length c0_2] 31 (0, 0))) ∧ Aside0 (w.heap.size ≤ B) ∧ Aside0 (Kd.R (Kd.int .i64) 3 wc w.heap.size (fun k => k ≠ B) v3 (linesTo l0_2 n)) ∧ Aside0 (Below w.heap.size w wc))
    case atStart =>
      have HS1 : (w.alloc (.cells #[.int .i64 (W : Int), .int .i64 a0_1, .slice A0_2 l0_2.length c0_2] 31)).heap.size = w.heap.size + 1 := by simp
      refine ⟨0, w.heap.size + 1 + 1, by omega, by omega, rfl, ⟨?_⟩, ⟨blk_alloc (blk_alloc (heap_alloc_new w _) _) _⟩, ⟨by omega⟩, ⟨?_⟩, ⟨by repeat (first | exact Below.refl _ _ | apply below_alloc)⟩⟩
      · have := heap_alloc_new ((w.alloc (.cells #[.int .i64 (W : Int), .int .i64 a0_1, .slice A0_2 l0_2.length c0_2] 31)).alloc (.cells #[] 3)) (.cells #[.int .i64 1] 3)
        simpa using this
      · refine Kd.R_alloc ?_ _
        rw [← HS1]
        exact ⟨fun k hk => by simp [Value.ownBlock] at hk; omega, [], World.ownsRow_lit (base := w.heap.size) (e := 3) (size := 1) (w.alloc (.cells #[.int .i64 (W : Int), .int .i64 a0_1, .slice A0_2 l0_2.length c0_2] 31)) #[] 0 (by rw [HS1]; omega) (by simp [maxLen]) (by simp), Reps.none _ _⟩
    case round =>
      obtain ⟨n, B, hn1, hkq, rfl, HB, HT, HBB, HR, HBE⟩ := hrel
      have HLN := Aside0.mk (linesTo_len l0_2 n)
      obtain ⟨ls, hls⟩ : ∃ ls, linesTo l0_2 n = ls := ⟨_, rfl⟩
      rw [hls] at HLN HR
      have HLS := Aside0.mk hls
      clear hls
      obtain ⟨A3, k3, e3⟩ := Kd.R_slice HR.out
      subst e3
      obtain ⟨x, hx⟩ : ∃ x : Int, ((n + 1 : Nat) : Int) = x := ⟨_, rfl⟩
      rw [hx] at HB
      have HX := Aside0.mk hx
      have hxW : (n + 1 < W → decide (x < (W : Int)) = true) ∧ (¬ n + 1 < W → decide (x < (W : Int)) = false) := ⟨fun h => decide_eq_true (by omega), fun h => decide_eq_false (by omega)⟩
      have HXW := Aside0.mk hxW
      clear hx hxW
      have c1 : wr.cell? ⟨B, 0, none⟩ = some (.int .i64 x) := (blk_cell HB.out 0).trans rfl
      have t0 : wr.cell? ⟨w.heap.size, 0, none⟩ = some (.int .i64 (W : Int)) := (blk_cell HT.out 0).trans rfl
      have t2 : wr.cell? ⟨w.heap.size, 2, none⟩ = some (.slice A0_2 l0_2.length c0_2) := (blk_cell HT.out 2).trans rfl
      by_cases hlt : n + 1 < W
      · have hlz := HXW.out.1 hlt
        have HCX := Aside0.mk (HCF.out wr B x HBE.out HB.out)
        cases hok : lineOk l0_2 x with
        | true =>
          rw [hok] at HCX
          have HOK := Aside0.mk hok
          clear hok
          go_wp2_with fail
          refine HCX.out.mono ?_
          rintro e w' ⟨rfl, hb⟩
          have HB1 := Aside0.mk (blk_below HB.out hb)
          have HT1 := Aside0.mk (blk_below HT.out hb)
          have HR1 := Aside0.mk (Kd.R_below HR.out hb)
          have HBE1 := Aside0.mk (HBE.out.trans (hb.mono HBE.out.size))
          have d1 : w'.cell? ⟨B, 0, none⟩ = some (.int .i64 x) := (blk_cell HB1.out 0).trans rfl
          clear c1 t0 t2 HB HT HR HBE hb HCX
          go_wp2_with (first | ((with_reducible refine gate_builtin (b := .append) (xs := #[.tmp 17, .tmp 19]) rfl ?_); at_builtin; refine Kd.R_append (Kd.int .i64) (w0 := w) w.heap.size rfl (.tmp 17) (.tmp 19) 26 3 (.int .i64 0) 8 rfl Try.underlying26 info3 rfl (by decide) (by omega) (.slice A3 ls.length k3) ls x [.int .i64 x] (fun k => k ≠ B) (fun _ => False) rfl rfl ?aP (fun _ hk => hk.elim) ?aF ?aO ?aB ?aS ?aL ?_; (case aP => exact rfl); (case aF => exact (fun k hk e => by have := blk_lt HB1.out; omega)); (case aB => exact (by repeat (first | (with_reducible first | exact HBE1.out | apply below_alloc | apply pw_below_drewN | apply below_drew1) | exact HBE1.out))); (case aO => exact (by (with_reducible repeat (first | apply Kd.R_alloc | apply Kd.R_drewN | apply Kd.R_drew)); exact HR1.out)); (case aS => exact HBE1.out.size); (case aL => have := HLN.out; simp; omega); intro v71 w12 ho hb hg hat; have HB2 := Aside0.mk (blk_grown HB1.out hg (Kd.R_away HR1.out (fun k hk => hk))); have HT2 := Aside0.mk (blk_grown HT1.out hg (Kd.R_ne HR1.out HT1.out (by decide))); have HR2 := Aside0.mk ho; have HBE2 := Aside0.mk hb; clear ho hb hg hat d1; have d1 : w12.cell? ⟨B, 0, none⟩ = some (.int .i64 x) := (blk_cell HB2.out 0).trans rfl))
          have HL1 : Aside0 (linesTo l0_2 (n + 1) = ls ++ [x]) := ⟨by simp only [linesTo]; rw [HX.out, HOK.out, HLS.out]; simp⟩
          have HY : Aside0 (wrap64 (x + 1) = ((n + 1 + 1 : Nat) : Int)) := ⟨by have := HX.out; rw [w64 (by omega) (by omega)]; omega⟩
          rw [HY.out]
          have HNX := Aside0.mk (lines_next (y := ((n + 1 + 1 : Nat) : Int)) HBE2.out HT2.out HR2.out)
          go_roundg (W - (n + 1 + 1))
          case measure => omega
          case rel => exact ⟨n + 1, _, by omega, Nat.le_refl _, rfl, ⟨HNX.out.1⟩, ⟨HNX.out.2.1⟩, ⟨HBE2.out.size⟩, ⟨by rw [HL1.out]; exact HNX.out.2.2.1⟩, ⟨HNX.out.2.2.2⟩⟩
        | false =>
          rw [hok] at HCX
          have HOK := Aside0.mk hok
          clear hok
          go_wp2_with fail
          refine HCX.out.mono ?_
          rintro e w' ⟨rfl, hb⟩
          have HB1 := Aside0.mk (blk_below HB.out hb)
          have HT1 := Aside0.mk (blk_below HT.out hb)
          have HR1 := Aside0.mk (Kd.R_below HR.out hb)
          have HBE1 := Aside0.mk (HBE.out.trans (hb.mono HBE.out.size))
          have d1 : w'.cell? ⟨B, 0, none⟩ = some (.int .i64 x) := (blk_cell HB1.out 0).trans rfl
          have HL1 : Aside0 (linesTo l0_2 (n + 1) = ls) := ⟨by simp only [linesTo]; rw [HX.out, HOK.out, HLS.out]; simp⟩
          clear c1 t0 t2 HB HT HR HBE hb HCX
          go_wp2_with fail
          have HY : Aside0 (wrap64 (x + 1) = ((n + 1 + 1 : Nat) : Int)) := ⟨by have := HX.out; rw [w64 (by omega) (by omega)]; omega⟩
          rw [HY.out]
          have HNX := Aside0.mk (lines_next (y := ((n + 1 + 1 : Nat) : Int)) HBE1.out HT1.out HR1.out)
          go_roundg (W - (n + 1 + 1))
          case measure => omega
          case rel => exact ⟨n + 1, _, by omega, Nat.le_refl _, rfl, ⟨HNX.out.1⟩, ⟨HNX.out.2.1⟩, ⟨HBE1.out.size⟩, ⟨by rw [HL1.out]; exact HNX.out.2.2.1⟩, ⟨HNX.out.2.2.2⟩⟩
      · have hlz := HXW.out.2 hlt
        have HFIN : Aside0 (ls = r) := ⟨by rw [← HRES.out, ← HLS.out]; congr 1; omega⟩
        go_wp2_with fail
        go_ret
        exact ⟨_, rfl, (by rw [← HFIN.out]; exact Kd.R_mono HR.out (fun _ _ => trivial)), HBE.out⟩
  · rw [if_neg hr] at h; cases h
end Go.Proofs.Ytnfiejagokefcaa.P
