import Derived.Test.YtfmhcgjmgaefcabMFnExactGreedyLosex0
import Derived.Test.YtfmhcgjmgaefcabMFnExactGreedyLosex1
import Derived.Test.YtfmhcgjmgaefcabMFnExactGreedyLosex2
import Derived.Below
import Derived.Deep.QuietTactic
import Derived.Deep.Draws
import Derived.StillTailTactics
import Derived.Shelf.Abstract
import Derived.RegionTactic
import Derived.ChangeAlike
import Derived.BigRegion
import Derived.Laws.EntriesVeiled
namespace Go.Proofs.Ytfmhcgjmgaefcab.P
open Go.RowKit Go.Proofs.YtfmhcgjmgaefcabW.PrintWords Go.Proofs.YtfmhcgjmgaefcabW.PrintLast Go.Proofs.YtfmhcgjmgaefcabW.PrintMore
attribute [local go_sem] max2_int min2_int max_two min_two max_three min_three max_four min_four
set_option linter.unusedVariables false
set_option linter.unusedSimpArgs false

/-! ### spec_GreedyLose: function 24 -/
def spec_GreedyLose.f (k : Nat) (a0 : Int) (a1 : Int) : Option (Int × Bool) := (spec_feSize.f a0 a1 13).bind fun t101 => (if t101 = true then ((spec_CountGreedy.f k a0 a1).bind fun bt102 => ((spec_feAll.f a0 a1).bind fun t104 => (if 0 < (t104.length : Int) then (some (wrap64 (bt102.1 - (((rd_T38 t104 0).f2).length : Int)), true)) else (none)))) else (some (0, false)))
theorem spec_GreedyLose.mono : ∀ a0 a1 k, LeO (spec_GreedyLose.f k a0 a1) (spec_GreedyLose.f (k + 1) a0 a1) := by
  intro a0 a1 k
  unfold spec_GreedyLose.f
  repeat' first
      | (with_reducible exact spec_CountGreedy.mono _ _ _)
      | (with_reducible exact LeO.refl _)
      | (with_reducible exact LeO.none _)
      | (with_reducible refine LeO.ite ?_ ?_)
      | (with_reducible refine LeO.bind ?_ (fun _ => ?_))
      | exact spec_CountGreedy.mono _ _ _
      | exact LeO.none _
      | refine LeO.ite ?_ ?_
      | refine LeO.bind ?_ (fun _ => ?_)
set_option maxHeartbeats 8000000 in
set_option maxRecDepth 100000 in
theorem spec_GreedyLose.calls (k : Nat) (a0 : Int) (a1 : Int) (r1 : Int) (r2 : Bool) (w : World) (h : spec_GreedyLose.f k a0 a1 = some (r1, r2)) :
    Calls Try.prog 24 #[.int .i64 a0, .int .i64 a1] w fun e w' => e = .returned (.tuple #[.int .i64 r1, .bool r2]) ∧ Below w.heap.size w w' := by
  have HB := Aside0.mk (Below.refl w.heap.size w)
  have H : ((spec_feSize.f a0 a1 13).bind fun t101 => (if t101 = true then ((spec_CountGreedy.f k a0 a1).bind fun bt102 => ((spec_feAll.f a0 a1).bind fun t104 => (if 0 < (t104.length : Int) then (some (wrap64 (bt102.1 - (((rd_T38 t104 0).f2).length : Int)), true)) else (none)))) else (some (0, false)))) = some (r1, r2) := h
  clear h
  replace H := Option.bind_eq_some_iff.mp H
  obtain ⟨t101, A30, H⟩ := H
  replace H : (if t101 = true then ((spec_CountGreedy.f k a0 a1).bind fun bt102 => ((spec_feAll.f a0 a1).bind fun t104 => (if 0 < (t104.length : Int) then (some (wrap64 (bt102.1 - (((rd_T38 t104 0).f2).length : Int)), true)) else (none)))) else (some (0, false))) = some (r1, r2) := H
  have A3 := Aside0.mk A30
  clear A30
  by_cases c4 : t101 = true
  · subst c4
    have H1 : ((spec_CountGreedy.f k a0 a1).bind fun bt102 => ((spec_feAll.f a0 a1).bind fun t104 => (if 0 < (t104.length : Int) then (some (wrap64 (bt102.1 - (((rd_T38 t104 0).f2).length : Int)), true)) else (none)))) = some (r1, r2) := by rw [if_pos rfl] at H; exact H
    clear H
    have H := H1
    clear H1
    replace H := Option.bind_eq_some_iff.mp H
    obtain ⟨⟨t102, t103⟩, A50, H⟩ := H
    replace H : ((spec_feAll.f a0 a1).bind fun t104 => (if 0 < (t104.length : Int) then (some (wrap64 (t102 - (((rd_T38 t104 0).f2).length : Int)), true)) else (none))) = some (r1, r2) := H
    have A5 := Aside0.mk A50
    clear A50
    replace H := Option.bind_eq_some_iff.mp H
    obtain ⟨t104, A60, H⟩ := H
    replace H : (if 0 < (t104.length : Int) then (some (wrap64 (t102 - (((rd_T38 t104 0).f2).length : Int)), true)) else (none)) = some (r1, r2) := H
    have A6 := Aside0.mk A60
    clear A60
    by_cases c7 : 0 < (t104.length : Int)
    · rw [if_pos c7] at H
      have c7b0 : decide (0 < (t104.length : Int)) = true := decide_eq_true c7
      have c7b1 : decide (0 < t104.length) = true := decide_eq_true (by omega)
      clear c7
      simp only [Option.some.injEq, Prod.mk.injEq] at H
      obtain ⟨rfl, rfl⟩ := H
      go_enter Try.func24, Try.ntmps24
      go_wp2_with (first | ((with_reducible refine gate_callee (f := 28) rfl ?_); refine goesL_ (some 10) rfl rfl Try.func28 (by kernel_rfl) rfl #[.int .i64 a0, .int .i64 a1, .int .i64 13] rfl (by (try simp only [List.map_toArray, List.map_cons, List.map_nil]); first | done | rfl | (simp only [List.length_drop, List.length_take]; rfl)) ?_; (with_reducible refine (spec_feSize.calls a0 a1 13 true _ A3.out).mono ?_); rintro e w' ⟨rfl, ⟨nd, rfl⟩⟩; refine ⟨_, rfl, ?_⟩) | ((with_reducible refine gate_callee (f := 46) rfl ?_); refine goesL_ (some 15) rfl rfl Try.func46 (by kernel_rfl) rfl #[.int .i64 a0, .int .i64 a1] rfl (by (try simp only [List.map_toArray, List.map_cons, List.map_nil]); first | done | rfl | (simp only [List.length_drop, List.length_take]; rfl)) ?_; (with_reducible refine (spec_CountGreedy.calls k a0 a1 t102 t103 _ A5.out).mono ?_); rintro e w8 ⟨rfl, hb⟩; refine ⟨_, rfl, ?_⟩; have n0_ := Aside0.mk (below_step (by repeat (first | (with_reducible first | exact HB.out | apply below_alloc | apply pw_below_drewN | apply below_drew1) | exact HB.out)) hb); clear HB; have HB := n0_; clear n0_; (try clear hb); (try clear hb2); (try clear hk); (try clear hi)) | ((with_reducible refine gate_callee (f := 29) rfl ?_); refine goesL_ (some 21) rfl rfl Try.func29 (by kernel_rfl) rfl #[.int .i64 a0, .int .i64 a1] rfl (by (try simp only [List.map_toArray, List.map_cons, List.map_nil]); first | done | rfl | (simp only [List.length_drop, List.length_take]; rfl)) ?_; (with_reducible refine (spec_feAll.calls a0 a1 t104 _ A6.out).mono ?_); rintro e w9 ⟨v105, rfl, ho0, hb⟩; refine ⟨_, rfl, ?_⟩; have n0_ := Aside0.mk (Kd.S_lower ho0 (below_size (by repeat (first | (with_reducible first | exact HB.out | apply below_alloc | apply pw_below_drewN | apply below_drew1) | exact HB.out)))); have n1_ := Aside0.mk (below_step (by repeat (first | (with_reducible first | exact HB.out | apply below_alloc | apply pw_below_drewN | apply below_drew1) | exact HB.out)) hb); clear HB; have HO106 := n0_; have HB := n1_; clear n0_ n1_; (try clear hb); (try clear hb2); (try clear hk); (try clear hi); (try clear ho0); obtain ⟨Ao10, co10, eo10⟩ := Kd.S_slice HO106.out; subst eo10; have p107 : 0 ≤ (0 : Int) := (by omega); have q107 : 0 < (t104.length : Int) := of_decide_eq_true (by first | (with_reducible assumption) | assumption); obtain ⟨ad107, A107_2, c107_2, e107, hx107_0, hx107_1, hx107_2, hl107_2, hi107_2⟩ := at_T38 (Kd.S_reads' HO106.out).2.2 0 p107 q107; cases e107; obtain ⟨ce107, hce107, hMe107, hcc107⟩ := Kd.S_get HO106.out z38 0 p107 (by first | exact q107 | exact of_decide_eq_true (by first | (with_reducible assumption) | assumption) | (have e_ := (Kd.S_reads' HO106.out).1; omega)); obtain ⟨ve107_2, rfl, ge107_2⟩ := k38_openM hMe107; have hv107_2 := hcc107 2 _ rfl; rw [add_field _ _ 2 (by omega)] at hv107_2; replace hv107_2 := Option.some.inj (hv107_2.symm.trans hx107_2); rw [hv107_2] at ge107_2; have HL107_2 := Aside0.mk (show Kd.R k57 57 _ _ _ _ ((rd_T38 t104 0).f2) from ge107_2); clear hv107_2 ge107_2; clear hcc107 hce107; have qi107 : (0 < t104.length) = True := eq_true (by omega); (try rw [show ((0 : Int)).toNat = 0 from rfl] at hx107_0); (try rw [show 0 * 3 = 0 from rfl] at hx107_0); (try rw [Addr.add_zero'] at hx107_0); (try rw [show ((0 : Int)).toNat = 0 from rfl] at hx107_1); (try rw [show 0 * 3 = 0 from rfl] at hx107_1); (try rw [Addr.add_zero'] at hx107_1); (try rw [show ((0 : Int)).toNat = 0 from rfl] at hx107_2); (try rw [show 0 * 3 = 0 from rfl] at hx107_2); (try rw [Addr.add_zero'] at hx107_2); have HR107_2 := Aside0.mk hi107_2; have HC107_2 := Aside0.mk hl107_2; clear hi107_2 hl107_2; replace p107 := eq_true p107; replace q107 := eq_true q107))
      go_ret2
      exact ⟨by first | rfl | (simp [errW_none, errW_some] <;> rfl) | (simp [*, errW_none, errW_some] <;> rfl), by repeat (first | (with_reducible first | exact HB.out | apply below_alloc | apply pw_below_drewN | apply below_drew1) | exact HB.out)⟩
    · rw [if_neg c7] at H
      exact absurd H (by simp)
  · replace c4 := Bool.eq_false_iff.mpr c4
    subst c4
    have H1 : (some (0, false)) = some (r1, r2) := by rw [if_neg (show ¬ (false = true) by decide)] at H; exact H
    clear H
    have H := H1
    clear H1
    simp only [Option.some.injEq, Prod.mk.injEq] at H
    obtain ⟨rfl, rfl⟩ := H
    go_enter Try.func24, Try.ntmps24
    go_wp2_with (first | ((with_reducible refine gate_callee (f := 28) rfl ?_); refine goesL_ (some 10) rfl rfl Try.func28 (by kernel_rfl) rfl #[.int .i64 a0, .int .i64 a1, .int .i64 13] rfl (by (try simp only [List.map_toArray, List.map_cons, List.map_nil]); first | done | rfl | (simp only [List.length_drop, List.length_take]; rfl)) ?_; (with_reducible refine (spec_feSize.calls a0 a1 13 false _ A3.out).mono ?_); rintro e w' ⟨rfl, ⟨nd, rfl⟩⟩; refine ⟨_, rfl, ?_⟩))
    go_ret2
    exact ⟨by first | rfl | (simp [errW_none, errW_some] <;> rfl) | (simp [*, errW_none, errW_some] <;> rfl), by repeat (first | (with_reducible first | exact HB.out | apply below_alloc | apply pw_below_drewN | apply below_drew1) | exact HB.out)⟩

end Go.Proofs.Ytfmhcgjmgaefcab.P

namespace Go.Proofs.Ytfmhcgjmgaefcab.P
open Go.RowKit Go.Proofs.YtfmhcgjmgaefcabW.PrintWords Go.Proofs.YtfmhcgjmgaefcabW.PrintLast Go.Proofs.YtfmhcgjmgaefcabW.PrintMore
attribute [local go_sem] max2_int min2_int max_two min_two max_three min_three max_four min_four
set_option linter.unusedVariables false
set_option linter.unusedSimpArgs false

/-! ### impl_within: function 33 -/
def impl_within.f (a0 : Int) (a1 : Int) (a2 : Int) : Option (Bool) := if a1 ≤ a0 then (some (decide (a0 ≤ a2))) else (some false)
set_option maxHeartbeats 8000000 in
set_option maxRecDepth 100000 in
theorem impl_within.calls (a0 : Int) (a1 : Int) (a2 : Int) (r : Bool) (w : World) (h : impl_within.f a0 a1 a2 = some r) :
    Calls Try.prog 33 #[.int .i64 a0, .int .i64 a1, .int .i64 a2] w fun e w' => e = .returned (.bool r) ∧ Drawn0 w w' := by
  have H : (if a1 ≤ a0 then (some (decide (a0 ≤ a2))) else (some false)) = some r := h
  clear h
  by_cases c4 : a1 ≤ a0
  · rw [if_pos c4] at H
    have c4b0 : decide (a1 ≤ a0) = true := decide_eq_true c4
    clear c4
    obtain rfl := Option.some.inj H
    go_enter Try.func33, Try.ntmps33
    go_wp2
    go_ret
    exact ⟨by first | rfl | (simp; done) | (simp [*]; done), by repeat (first | exact Drawn0.refl _ | apply Drawn0.step)⟩
  · rw [if_neg c4] at H
    have c4b0 : decide (a1 ≤ a0) = false := decide_eq_false c4
    clear c4
    obtain rfl := Option.some.inj H
    go_enter Try.func33, Try.ntmps33
    go_wp2
    go_ret
    exact ⟨by first | rfl | (simp; done) | (simp [*]; done), by repeat (first | exact Drawn0.refl _ | apply Drawn0.step)⟩

end Go.Proofs.Ytfmhcgjmgaefcab.P

namespace Go.Proofs.Ytfmhcgjmgaefcab.P
open Go.RowKit Go.Proofs.YtfmhcgjmgaefcabW.PrintWords Go.Proofs.YtfmhcgjmgaefcabW.PrintLast Go.Proofs.YtfmhcgjmgaefcabW.PrintMore
attribute [local go_sem] max2_int min2_int max_two min_two max_three min_three max_four min_four
set_option linter.unusedVariables false
set_option linter.unusedSimpArgs false

/-! ### impl_isFew: function 30 -/
def impl_isFew.f (a0 : Int) (a1 : Int) : Option (Bool) := (impl_within.f a0 1 13).bind fun t101 => (if t101 = true then ((impl_within.f a1 1 13).bind fun t102 => (some t102)) else (some false))
set_option maxHeartbeats 8000000 in
set_option maxRecDepth 100000 in
theorem impl_isFew.calls (a0 : Int) (a1 : Int) (r : Bool) (w : World) (h : impl_isFew.f a0 a1 = some r) :
    Calls Try.prog 30 #[.int .i64 a0, .int .i64 a1] w fun e w' => e = .returned (.bool r) ∧ Drawn0 w w' := by
  have H : ((impl_within.f a0 1 13).bind fun t101 => (if t101 = true then ((impl_within.f a1 1 13).bind fun t102 => (some t102)) else (some false))) = some r := h
  clear h
  replace H := Option.bind_eq_some_iff.mp H
  obtain ⟨t101, A30, H⟩ := H
  replace H : (if t101 = true then ((impl_within.f a1 1 13).bind fun t102 => (some t102)) else (some false)) = some r := H
  have A3 := Aside0.mk A30
  clear A30
  by_cases c4 : t101 = true
  · subst c4
    have H1 : ((impl_within.f a1 1 13).bind fun t102 => (some t102)) = some r := by rw [if_pos rfl] at H; exact H
    clear H
    have H := H1
    clear H1
    replace H := Option.bind_eq_some_iff.mp H
    obtain ⟨t102, A50, H⟩ := H
    replace H : (some t102) = some r := H
    have A5 := Aside0.mk A50
    clear A50
    obtain rfl := Option.some.inj H
    go_enter Try.func30, Try.ntmps30
    go_wp2_with (first | ((with_reducible refine gate_callee (f := 33) rfl ?_); refine goesL_ (some 6) rfl rfl Try.func33 (by kernel_rfl) rfl #[.int .i64 a0, .int .i64 1, .int .i64 13] rfl (by (try simp only [List.map_toArray, List.map_cons, List.map_nil]); first | done | rfl | (simp only [List.length_drop, List.length_take]; rfl)) ?_; (with_reducible refine (impl_within.calls a0 1 13 true _ A3.out).mono ?_); rintro e w' ⟨rfl, ⟨nd, rfl⟩⟩; refine ⟨_, rfl, ?_⟩) | (go_at_call 33; (with_reducible refine (impl_within.calls a1 1 13 t102 _ A5.out).mono ?_); rintro e w' ⟨rfl, ⟨nd, rfl⟩⟩))
    go_ret
    exact ⟨by first | rfl | (simp; done) | (simp [*]; done), by repeat (first | exact Drawn0.refl _ | apply Drawn0.step)⟩
  · replace c4 := Bool.eq_false_iff.mpr c4
    subst c4
    have H1 : (some false) = some r := by rw [if_neg (show ¬ (false = true) by decide)] at H; exact H
    clear H
    have H := H1
    clear H1
    obtain rfl := Option.some.inj H
    go_enter Try.func30, Try.ntmps30
    go_wp2_with (first | ((with_reducible refine gate_callee (f := 33) rfl ?_); refine goesL_ (some 6) rfl rfl Try.func33 (by kernel_rfl) rfl #[.int .i64 a0, .int .i64 1, .int .i64 13] rfl (by (try simp only [List.map_toArray, List.map_cons, List.map_nil]); first | done | rfl | (simp only [List.length_drop, List.length_take]; rfl)) ?_; (with_reducible refine (impl_within.calls a0 1 13 false _ A3.out).mono ?_); rintro e w' ⟨rfl, ⟨nd, rfl⟩⟩; refine ⟨_, rfl, ?_⟩))
    go_ret
    exact ⟨by first | rfl | (simp; done) | (simp [*]; done), by repeat (first | exact Drawn0.refl _ | apply Drawn0.step)⟩

end Go.Proofs.Ytfmhcgjmgaefcab.P

namespace Go.Proofs.Ytfmhcgjmgaefcab.P
open Go.RowKit Go.Proofs.YtfmhcgjmgaefcabW.PrintWords Go.Proofs.YtfmhcgjmgaefcabW.PrintLast Go.Proofs.YtfmhcgjmgaefcabW.PrintMore
attribute [local go_sem] max2_int min2_int max_two min_two max_three min_three max_four min_four
set_option linter.unusedVariables false
set_option linter.unusedSimpArgs false

/-! ### slices_Min_int_int: function 90 -/
open Go.Proofs.Ytfmhcgjmgaefcab.T
def MinTo (f : List Int) (k : Nat) (m : Int) : Prop := (∃ c, c < k ∧ ht f c = m) ∧ ∀ c, c < k → m ≤ ht f c
theorem MinTo.low {f : List Int} {m : Int} (hne : 0 < f.length) (h : MinTo f f.length m) : m = ht f (low f) := by
  have L := low_spec f (fun e => by simp [e] at hne)
  obtain ⟨⟨c, hc, e⟩, h2⟩ := h
  have h3 := L.le c hc
  have h4 := h2 _ L.lt
  omega
theorem MinTo.next {f : List Int} {k : Nat} {m : Int} (h : MinTo f k m) : MinTo f (k + 1) (if ht f k < m then ht f k else m) := by
  obtain ⟨⟨c, hc, e⟩, h2⟩ := h
  split
  · rename_i hl
    exact ⟨⟨k, by omega, rfl⟩, fun d hd => by
      by_cases e1 : d = k
      · subst e1; omega
      · have := h2 d (by omega); omega⟩
  · rename_i hl
    exact ⟨⟨c, by omega, e⟩, fun d hd => by
      by_cases e1 : d = k
      · subst e1; omega
      · exact h2 d (by omega)⟩
set_option maxHeartbeats 1000000 in
theorem slices_Min_int (f : List Int) (G : Nat) (w : World) (hcol : ∀ i, i < f.length → w.cell? ⟨G, i, none⟩ = some (.int .i64 (ht f i))) (hne : 0 < f.length) (hn : f.length ≤ 1000) :
    Calls Try.prog 90 #[.slice (some ⟨G, 0, none⟩) f.length f.length] w fun e w' => e = .returned (.int .i64 (ht f (low f))) ∧ w = w' := by
  have HC := Aside0.mk hcol
  have h0 : w.cell? ⟨G, 0, none⟩ = some (.int .i64 (ht f 0)) := hcol 0 hne
  have HM : Aside0 (MinTo f 1 (ht f 0)) := ⟨⟨⟨0, by omega, rfl⟩, fun c hc => by rw [show c = 0 by omega]; omega⟩⟩
  clear hcol
  generalize ht f 0 = m0 at h0 HM
  have hz : decide (f.length < 1) = false := decide_eq_false (by omega)
  have hq := eq_true hne
  go_enter Try.func90, Try.ntmps90
  go_wp2
  go_loopg [3, 4] f.length (fun kq v3 v4 wc => ∃ (k : Nat) (m : Int), k ≤ f.length ∧ f.length - k ≤ kq ∧ v3 = .int .i64 m ∧ v4 = .int .i64 k ∧ Aside0 (MinTo f k m) ∧ wc = w)
  case atStart => exact ⟨1, m0, by omega, by omega, rfl, rfl, HM, rfl⟩
  case round =>
    clear HM
    obtain ⟨k, m, hk, hkq, rfl, rfl, HM, rfl⟩ := hrel
    by_cases hlt : k < f.length
    · have hlz : decide (k < f.length) = true := decide_eq_true hlt
      have hc := HC.out k hlt
      have HN := Aside0.mk HM.out.next
      generalize ht f k = y at hc HN
      by_cases c : y < m
      · rw [if_pos c] at HN
        go_wp2
        go_roundg (f.length - (k + 1))
        case measure => omega
        case rel => exact ⟨k + 1, y, by omega, by omega, by first | trivial | rfl, by go_num, HN, by first | trivial | rfl⟩
      · rw [if_neg c] at HN
        go_wp2
        go_roundg (f.length - (k + 1))
        case measure => omega
        case rel => exact ⟨k + 1, m, by omega, by omega, by first | trivial | rfl, by go_num, HN, by first | trivial | rfl⟩
    · have hlz : decide (k < f.length) = false := decide_eq_false hlt
      have hm := MinTo.low hne (by rw [show f.length = k by omega]; exact HM.out)
      have HMM := Aside0.mk hm
      clear hm
      go_wp2
      go_ret
      exact ⟨by rw [← HMM.out]; rfl, rfl⟩

end Go.Proofs.Ytfmhcgjmgaefcab.P

namespace Go.Proofs.Ytfmhcgjmgaefcab.P
open Go.RowKit Go.Proofs.YtfmhcgjmgaefcabW.PrintWords Go.Proofs.YtfmhcgjmgaefcabW.PrintLast Go.Proofs.YtfmhcgjmgaefcabW.PrintMore
attribute [local go_sem] max2_int min2_int max_two min_two max_three min_three max_four min_four
set_option linter.unusedVariables false
set_option linter.unusedSimpArgs false

/-! ### impl_filler_least: function 91 -/
theorem bit_any (b : Bool) (w : World) : Calls Try.prog 79 #[.bool b] w fun e w' => e = .returned (.int .i64 (if b = true then 1 else 0)) ∧ w' = w := by
  cases b
  · go_enter Try.func79, Try.ntmps79
    go_wp2
    go_ret
    exact ⟨rfl, rfl⟩
  · go_enter Try.func79, Try.ntmps79
    go_wp2
    go_ret
    exact ⟨rfl, rfl⟩
open Go.Proofs.Ytfmhcgjmgaefcab.T
/-- the filler in memory: its own cells, its columns -/
structure Fil (w : World) (F G : Nat) (H most : Int) (f : List Int) (vS each : Value) : Prop where
  own : w.heap[F]? = some (.cells #[.int .i64 f.length, .int .i64 H, .slice (some ⟨G, 0, none⟩) f.length f.length, vS, .int .i64 most, each] 80 (0, 0))
  cols : w.heap[G]? = some (.cells (f.map (Value.int .i64)).toArray 3 (0, 0))
theorem Fil.col {w : World} {F G : Nat} {H most : Int} {f : List Int} {vS each : Value} (h : Fil w F G H most f vS each) (i : Nat) (hi : i < f.length) : w.cell? ⟨G, i, none⟩ = some (.int .i64 (ht f i)) := by
  rw [blk_cell h.cols i]
  simp [ht, hi]
theorem Fil.below {w w' : World} {F G : Nat} {H most : Int} {f : List Int} {vS each : Value} (h : Fil w F G H most f vS each) (hb : Below w.heap.size w w') : Fil w' F G H most f vS each :=
  ⟨blk_below h.own hb, blk_below h.cols hb⟩
theorem deepAt_bd {h : Int} {f : List Int} {x : Nat} (h0 : 0 ≤ h) (hx : x < f.length) (hf : ∀ c, c < f.length → 0 ≤ ht f c ∧ ht f c ≤ h) : 0 ≤ deepAt h f x ∧ deepAt h f x ≤ h := by
  have := hf x hx
  unfold deepAt
  simp only
  split <;> split <;> omega
theorem extra_bd {h : Int} {f : List Int} {x : Nat} (hx : x < f.length) (hf : ∀ c, c < f.length → 0 ≤ ht f c ∧ ht f c ≤ h) (hh : h ≤ 1000) : 0 ≤ extra h f x ∧ extra h f x ≤ 1000 := by
  have h0 := hf x hx
  have hd := deepAt_bd (by omega) hx hf
  have hr := runAt_pos f x hx
  unfold extra
  have : (deepAt h f x + (runAt f x : Int) - 1) / (runAt f x : Int) ≤ 1000 := Int.ediv_le_of_le_mul (by omega) (by
    have : (1000 : Int) * 1 ≤ 1000 * (runAt f x : Int) := by omega
    have h2 : ((runAt f x : Int) - 1) * 999 ≥ 0 := Int.mul_nonneg (by omega) (by omega)
    omega)
  omega
theorem extra_form {H : Int} {f : List Int} {x r : Nat} {dp : Int} (hr : runAt f x = r) (hd : deepAt H f x = dp) : extra H f x = max 1 ((dp + (r : Int) - 1) / (r : Int)) - 1 := by unfold extra; rw [hr, hd]
theorem pop_len (y : Int) : ∀ st : List Int, (pop y st).length ≤ st.length
  | [] => Nat.le_refl _
  | z :: st => by
    simp only [pop]
    split
    · exact Nat.le_trans (pop_len y st) (by simp)
    · exact Nat.le_refl _
def pushB (y : Int) : List Int → Bool
  | [] => true
  | z :: _ => decide (y < z)
set_option maxHeartbeats 4000000 in
set_option maxRecDepth 100000 in
theorem filler_least (w : World) (F G : Nat) (H most : Int) (f : List Int) (vS each : Value) (hF : Fil w F G H most f vS each) (hn : f.length ≤ 1000) (hH : H ≤ 1000) (hf : ∀ c, c < f.length → 0 ≤ ht f c ∧ ht f c ≤ H) :
    Calls Try.prog 91 #[.pointer (some ⟨F, 0, none⟩)] w fun e w' => e = .returned (.int .i64 (least H f)) ∧ Below w.heap.size w w' := by
  have HF := Aside0.mk hF
  have Hf := Aside0.mk hf
  have HL : Aside0 (leastL H f (f.length + 1) 0 0 [] = least H f) := ⟨rfl⟩
  clear hF hf
  go_enter Try.func91, Try.ntmps91
  go_wp2
  go_loopg [3, 4, 5] f.length (fun kq v3 v4 v5 wc => ∃ (x : Nat) (many : Int) (st : List Int), x ≤ f.length ∧ f.length - x ≤ kq ∧ v3 = .int .i64 many ∧ v5 = .int .i64 x ∧ 0 ≤ many ∧ many ≤ 2001 * x ∧ Aside0 (∃ m, f.length - x < m ∧ leastL H f m x many st = least H f) ∧ Aside0 (st.length ≤ x) ∧ Aside0 (Kd.R (Kd.int .i64) 3 wc w.heap.size (fun _ => True) v4 st.reverse) ∧ Aside0 (Below w.heap.size w wc))
  case atStart => exact ⟨0, 0, [], by omega, by omega, rfl, rfl, by omega, by omega, ⟨⟨f.length + 1, by omega, HL.out⟩⟩, ⟨by simp⟩, ⟨⟨fun _ _ => trivial, [], World.ownsRow_lit (base := w.heap.size) (e := 3) (size := 1) w #[] 0 (Nat.le_refl _) (by simp [maxLen]) (by simp), Reps.none _ _⟩⟩, ⟨(Below.refl _ _).alloc (Nat.le_refl _) _⟩⟩
  case round =>
    clear HL
    obtain ⟨x, many, st, hx, hkq, rfl, rfl, hm0, hm1, HM, HST, HR, HB⟩ := hrel
    have HFr := Aside0.mk (HF.out.below HB.out)
    have c0 := blk_cell HFr.out.own 0
    have c1 := blk_cell HFr.out.own 1
    have c2 := blk_cell HFr.out.own 2
    simp only [List.getElem?_toArray, List.getElem?_cons_zero, List.getElem?_cons_succ] at c0 c1 c2
    by_cases hlt : x < f.length
    · have hlz : decide (x < f.length) = true := decide_eq_true hlt
      have hcx := HFr.out.col x hlt
      have hrp := runAt_pos f x hlt
      have hrl := runAt_le f x (by omega)
      have hrun : ∃ r, runAt f x = r := ⟨_, rfl⟩
      obtain ⟨r, hr⟩ := hrun
      have HRN := Aside0.mk hr
      rw [hr] at hrp hrl
      clear hr
      obtain ⟨y, hy⟩ : ∃ y, ht f x = y := ⟨_, rfl⟩
      have HY := Aside0.mk hy
      rw [hy] at hcx
      have hyb := Hf.out x hlt
      rw [hy] at hyb
      clear hy
      obtain ⟨wo, rfl⟩ : ∃ wo : World, wo = wr := ⟨_, rfl⟩
      go_upto_block 2 with (fail)
      go_cut [6] (fun v6 wc => v6 = .int .i64 ((x + r : Nat) : Int) ∧ ∃ nd, wc = wo.drewN nd)
      case first => as_aux_lemma =>
        go_wp2_with fail
        go_loopg [6] f.length (fun kq v6 wc => ∃ (e : Nat), x ≤ e ∧ e ≤ x + r ∧ f.length - e ≤ kq ∧ v6 = .int .i64 e ∧ ∃ nd, wc = wo.drewN nd)
        case atStart => exact ⟨x, by omega, by omega, by omega, rfl, 0, rfl⟩
        case round =>
          obtain ⟨e, he0, he1, hek, rfl, nd, rfl⟩ := hrel
          by_cases hee : e < f.length
          · have hez : decide (e < f.length) = true := decide_eq_true hee
            have hce : wo.cell? ⟨G, e, none⟩ = some (.int .i64 (ht f e)) := HFr.out.col e hee
            by_cases he2 : e < x + r
            · have h1 : ht f e = y := by
                have := runAt_eq f x (e - x) (by rw [HRN.out]; omega)
                rw [show x + (e - x) = e by omega, HY.out] at this
                exact this
              rw [h1] at hce
              clear h1
              go_wp2_with fail
              go_quiet (fail)
              go_wp2
              go_roundg (f.length - (e + 1))
              case measure => omega
              case rel => exact ⟨e + 1, by omega, by omega, by omega, by go_num, _, by first | rfl | exact World.drewN_drewN _ _ _⟩
            · have h1 : (ht f e == y) = false := by
                have := runAt_end f x (by rw [HRN.out]; omega)
                rw [HRN.out, show x + r = e by omega, HY.out] at this
                simpa using this
              generalize ht f e = ye at hce h1
              go_wp2_with fail
              go_quiet (fail)
              go_wp2
              go_meet
              case rel => exact ⟨by rw [show e = x + r by omega], _, World.drewN_drewN _ _ _⟩
          · have hez : decide (e < f.length) = false := decide_eq_false hee
            go_wp2_with fail
            go_quiet (fail)
            go_wp2
            go_meet
            case rel => exact ⟨by rw [show e = x + r by omega], _, World.drewN_drewN _ _ _⟩
      case rest =>
        obtain ⟨rfl, nd, rfl⟩ := hcut
        go_wp2_with fail
        go_quiet (fail)
        go_upto_if 54 with (fail)
        go_cut [7] (fun v7 wc => v7 = .int .i64 (if 0 < x then min (H - y) (max 0 (ht f (x - 1) - y)) else H - y) ∧ ∃ nd, wc = wo.drewN nd)
        case first => as_aux_lemma =>
          by_cases c1 : 0 < x
          · have c1z : decide (0 < x) = true := decide_eq_true c1
            have hcp : wo.cell? ⟨G, x - 1, none⟩ = some (.int .i64 (ht f (x - 1))) := HFr.out.col (x - 1) (by omega)
            have hpb := Hf.out (x - 1) (by omega)
            have HX := Aside0.mk c1
            obtain ⟨yp, hyp⟩ : ∃ yp, ht f (x - 1) = yp := ⟨_, rfl⟩
            have HYP := Aside0.mk hyp
            rw [hyp] at hcp hpb
            clear hyp
            go_wp2_with fail
            go_quiet (fail)
            go_wp2_with fail
            all_goals
              go_meet
              case rel => exact ⟨congrArg (Value.int .i64) (by rw [if_pos HX.out, HYP.out]; omega), _, by first | rfl | exact World.drewN_drewN _ _ _⟩
          · have c1z : decide (0 < x) = false := decide_eq_false c1
            have HX := Aside0.mk c1
            go_wp2_with fail
            go_meet
            case rel => exact ⟨congrArg (Value.int .i64) (by rw [if_neg HX.out]), _, by first | rfl | exact World.drewN_drewN _ _ _⟩
        case rest =>
          obtain ⟨rfl, nd, rfl⟩ := hcut
          obtain ⟨d1, hd1⟩ : ∃ d1, (if 0 < x then min (H - y) (max 0 (ht f (x - 1) - y)) else H - y) = d1 := ⟨_, rfl⟩
          have HD1 := Aside0.mk hd1
          have hd1b : 0 ≤ d1 ∧ d1 ≤ H := by rw [← hd1]; split <;> omega
          rw [hd1]
          clear hd1
          go_upto_if 79 with (fail)
          go_cut [7] (fun v7 wc => v7 = .int .i64 (deepAt H f x) ∧ ∃ nd, wc = wo.drewN nd)
          case first => as_aux_lemma =>
            by_cases c1 : x + r < f.length
            · have c1z : decide (x + r < f.length) = true := decide_eq_true c1
              have c1y : (x : Int) + (r : Int) < (f.length : Int) := by omega
              have hcp : wo.cell? ⟨G, x + r, none⟩ = some (.int .i64 (ht f (x + r))) := HFr.out.col (x + r) c1
              have hpb := Hf.out (x + r) c1
              have HX := Aside0.mk c1
              obtain ⟨yp, hyp⟩ : ∃ yp, ht f (x + r) = yp := ⟨_, rfl⟩
              have HYP := Aside0.mk hyp
              rw [hyp] at hcp hpb
              clear hyp
              go_wp2_with fail
              go_quiet (fail)
              go_wp2_with fail
              all_goals
                go_meet
                case rel => exact ⟨congrArg (Value.int .i64) (by unfold deepAt; simp only; rw [HRN.out, if_pos HX.out, HY.out, HYP.out, HD1.out]; omega), _, by first | rfl | exact World.drewN_drewN _ _ _⟩
            · have c1z : decide (x + r < f.length) = false := decide_eq_false c1
              have c1y : ¬ (x : Int) + (r : Int) < (f.length : Int) := by omega
              have HX := Aside0.mk c1
              go_wp2_with fail
              go_meet
              case rel => exact ⟨congrArg (Value.int .i64) (by unfold deepAt; simp only; rw [HRN.out, if_neg HX.out, HY.out, HD1.out]), _, by first | rfl | exact World.drewN_drewN _ _ _⟩
          case rest =>
            obtain ⟨rfl, nd, rfl⟩ := hcut
            obtain ⟨dp, hdp⟩ : ∃ dp, deepAt H f x = dp := ⟨_, rfl⟩
            have HDP := Aside0.mk hdp
            have hdb : 0 ≤ dp ∧ dp ≤ H := by rw [← hdp]; exact deepAt_bd (by omega) hlt Hf.out
            rw [hdp]
            clear hdp HD1 hd1b
            have heb := extra_bd hlt Hf.out hH
            go_upto_region 12 with (fail)
            go_cut [3] (fun v3 wc => v3 = .int .i64 (many + extra H f x) ∧ wc = wo.drewN nd)
            case first => as_aux_lemma =>
              have HEB := Aside0.mk heb
              clear heb
              go_wp2_with fail
              all_goals
                go_meet
                case rel =>
                  rename_i h
                  refine ⟨congrArg (Value.int .i64) ?_, rfl⟩
                  have hf := extra_form HRN.out HDP.out
                  have hb := HEB.out
                  rw [show dp + ((x : Int) + (r : Int)) - (x : Int) - 1 = dp + r - 1 by omega, show (x : Int) + (r : Int) - (x : Int) = r by omega] at h
                  try rw [show dp + ((x : Int) + (r : Int)) - (x : Int) - 1 = dp + r - 1 by omega, show (x : Int) + (r : Int) - (x : Int) = r by omega]
                  rw [hf] at hb ⊢
                  generalize (dp + (r : Int) - 1) / (r : Int) = q at h hb ⊢
                  unfold wrap64
                  omega
            case rest =>
              obtain ⟨rfl, rfl⟩ := hcut
              go_upto_block 4 with (fail)
              go_cut [4] (fun v4 wc => Aside0 (Kd.R (Kd.int .i64) 3 wo w.heap.size (fun _ => True) v4 (pop y st).reverse) ∧ ∃ nd, wc = wo.drewN nd)
              case first => as_aux_lemma =>
                go_wp2_with fail
                go_loopg [4] st.length (fun kq v4 wc => ∃ st1 : List Int, st1.length ≤ kq ∧ Aside0 (pop y st1 = pop y st) ∧ Aside0 (st1.length ≤ x) ∧ Aside0 (Kd.R (Kd.int .i64) 3 wo w.heap.size (fun _ => True) v4 st1.reverse) ∧ ∃ nd, wc = wo.drewN nd)
                case atStart => exact ⟨st, by omega, ⟨rfl⟩, HST, HR, _, rfl⟩
                case round =>
                  obtain ⟨st1, hsk, HP, HS1, HR1, nd1, rfl⟩ := hrel
                  cases st1 with
                  | nil =>
                    obtain ⟨A, c, e⟩ := Kd.R_slice HR1.out
                    simp only [List.reverse_nil, List.length_nil] at e
                    subst e
                    go_wp2_with fail
                    go_quiet (fail)
                    go_wp2_with fail
                    go_meet
                    case rel => exact ⟨by rw [← HP.out]; exact HR1, _, by first | rfl | exact World.drewN_drewN _ _ _⟩
                  | cons z s1 =>
                    have hl1 : (z :: s1).reverse.length = s1.length + 1 := by simp
                    obtain ⟨A, c, e⟩ := Kd.R_slice HR1.out
                    rw [hl1] at e
                    subst e
                    have hl63 : s1.length + 1 ≤ 1001 := by have := HS1.out; simp at this; omega
                    obtain ⟨ad, e1, hz⟩ := Kd.at_int (Kd.R_reads' HR1.out).2.2 ((s1.length : Nat) : Int) (by omega) (by rw [hl1]; omega)
                    subst e1
                    have hz2 : rd (z :: s1).reverse ((s1.length : Nat) : Int) = z := by simp [rd]
                    rw [hz2, Int.toNat_natCast] at hz
                    have hb1 := eq_true (show (0 : Int) ≤ (s1.length : Int) by omega)
                    have hb2 := eq_true (show (s1.length : Int) < ((s1.length + 1 : Nat) : Int) by omega)
                    have hb3 := eq_true (show (s1.length : Int) < (s1.length : Int) + 1 by omega)
                    have hzo : wo.cell? (ad.add s1.length) = some (.int .i64 z) := hz
                    have hcc : s1.length + 1 ≤ c := by have := (Kd.R_reads' HR1.out).2.1; omega
                    have hcd := eq_true (show s1.length ≤ c by omega)
                    clear hz2 hl1 hz
                    have hw1 : IntKind.i64.wrap (((s1.length + 1 : Nat) : Int) - 1) = (s1.length : Int) := (i64_w _).trans (by unfold wrap64; omega)
                    have hw2 : IntKind.i64.wrap ((s1.length : Int) + 1 - 1) = (s1.length : Int) := (i64_w _).trans (by unfold wrap64; omega)
                    have hw3 : IntKind.i64.wrap (s1.length : Int) = (s1.length : Int) := (i64_w _).trans (by unfold wrap64; omega)
                    by_cases hzy : z < y
                    · go_wp2_with fail
                      go_quiet (fail)
                      go_wp2_with fail
                      clear hw1 hw2 hw3
                      go_roundg s1.length
                      case measure =>
                        clear hb1 hb2 hb3 hcd hcc
                        simp only [List.length_cons] at hsk
                        omega
                      case rel =>
                        refine ⟨s1, Nat.le_refl _, ⟨by rw [← HP.out]; simp only [pop, if_pos hzy]⟩, ⟨Nat.le_trans (by simp) HS1.out⟩, ⟨?_⟩, _, by first | rfl | exact World.drewN_drewN _ _ _⟩
                        have := Kd.R_take HR1.out (m := s1.length) (by simp)
                        rw [show (z :: s1).reverse.take s1.length = s1.reverse by simp] at this
                        exact this
                    · go_wp2_with fail
                      go_quiet (fail)
                      go_wp2_with fail
                      go_meet
                      case rel => exact ⟨by rw [← HP.out, show pop y (z :: s1) = z :: s1 by simp only [pop, if_neg (Int.not_lt.2 hzy)]]; exact HR1, _, by first | rfl | exact World.drewN_drewN _ _ _⟩
              case rest =>
                obtain ⟨HR4, nd, rfl⟩ := hcut
                obtain ⟨p, hp⟩ : ∃ p, pop y st = p := ⟨_, rfl⟩
                have HPP := Aside0.mk hp
                rw [hp] at HR4
                have HPL : Aside0 (p.length ≤ x) := ⟨by rw [← hp]; exact Nat.le_trans (pop_len _ _) HST.out⟩
                clear hp HR HST
                go_upto_region 15 with (fail)
                go_cut [154] (fun v154 wc => v154 = .bool (pushB y p) ∧ ∃ nd, wc = wo.drewN nd)
                case first => as_aux_lemma =>
                  cases p with
                  | nil =>
                    obtain ⟨A, c, e⟩ := Kd.R_slice HR4.out
                    simp only [List.reverse_nil, List.length_nil] at e
                    subst e
                    go_quiet (fail)
                    go_wp2_with fail
                    go_meet
                    case rel => exact ⟨rfl, _, by first | rfl | exact World.drewN_drewN _ _ _⟩
                  | cons z s1 =>
                    have hyz : y ≤ z := pop_head HPP.out
                    have hl1 : (z :: s1).reverse.length = s1.length + 1 := by simp
                    obtain ⟨A, c, e⟩ := Kd.R_slice HR4.out
                    rw [hl1] at e
                    subst e
                    have hl63 : s1.length + 1 ≤ 1001 := by have := HPL.out; simp at this; omega
                    obtain ⟨ad, e1, hz⟩ := Kd.at_int (Kd.R_reads' HR4.out).2.2 ((s1.length : Nat) : Int) (by omega) (by rw [hl1]; omega)
                    subst e1
                    have hz2 : rd (z :: s1).reverse ((s1.length : Nat) : Int) = z := by simp [rd]
                    rw [hz2, Int.toNat_natCast] at hz
                    have hb1 := eq_true (show (0 : Int) ≤ (s1.length : Int) by omega)
                    have hb2 := eq_true (show (s1.length : Int) < ((s1.length + 1 : Nat) : Int) by omega)
                    have hb3 := eq_true (show (s1.length : Int) < (s1.length : Int) + 1 by omega)
                    clear hz2 hl1
                    have hne : decide (s1.length + 1 = 0) = false := by simp
                    have hw1 : IntKind.i64.wrap (((s1.length + 1 : Nat) : Int) - 1) = (s1.length : Int) := (i64_w _).trans (by unfold wrap64; omega)
                    have hw2 : IntKind.i64.wrap ((s1.length : Int) + 1 - 1) = (s1.length : Int) := (i64_w _).trans (by unfold wrap64; omega)
                    have hw3 : IntKind.i64.wrap (s1.length : Int) = (s1.length : Int) := (i64_w _).trans (by unfold wrap64; omega)
                    go_quiet (fail)
                    go_wp2_with fail
                    go_meet
                    case rel => exact ⟨rfl, _, by first | rfl | exact World.drewN_drewN _ _ _⟩
                case rest =>
                  obtain ⟨rfl, nd2, rfl⟩ := hcut
                  have HMM : Aside0 (∃ m, f.length - (x + r) < m ∧ leastL H f m (x + r) (if pushB y p = true then many + extra H f x + (if y < H then 1 else 0) else many + extra H f x) (if pushB y p = true then y :: p else p) = least H f) := ⟨by
                    obtain ⟨m, hm, h⟩ := HM.out
                    obtain ⟨m, rfl⟩ : ∃ q, m = q + 1 := ⟨m - 1, by omega⟩
                    refine ⟨m, by omega, ?_⟩
                    rw [← h]
                    simp only [leastL, if_pos hlt, HY.out, HRN.out, HPP.out]
                    cases p with
                    | nil => rfl
                    | cons z s1 =>
                      by_cases c : y < z
                      · simp only [pushB, decide_eq_true c, if_pos c, if_true]
                      · have cc : decide (y < z) = false := decide_eq_false c
                        simp only [pushB, cc, if_neg c]
                        rfl⟩
                  clear HM
                  generalize pushB y p = b at HMM
                  cases b with
                  | true =>
                    rw [if_pos rfl, if_pos rfl] at HMM
                    obtain ⟨A, c, e⟩ := Kd.R_slice HR4.out
                    subst e
                    go_upto_region 17 with (first | ((with_reducible refine gate_builtin (b := .append) (xs := #[.tmp 155, .tmp 163]) rfl ?_); at_builtin; refine Kd.R_append (Kd.int .i64) (w0 := w) w.heap.size rfl (.tmp 155) (.tmp 163) 25 3 (.int .i64 0) 8 rfl Try.underlying25 info3 rfl (by decide) (by omega) (.slice A p.reverse.length c) p.reverse y [.int .i64 y] (fun _ => True) (fun _ => False) rfl rfl ?aP (fun _ hk => hk.elim) (fun _ _ => trivial) ?aO ?aB ?aS ?aL ?_; (case aP => exact rfl); (case aB => exact (by repeat (first | (with_reducible first | exact HB.out | apply below_alloc | apply pw_below_drewN | apply below_drew1) | exact HB.out))); (case aO => exact (by (with_reducible repeat (first | apply Kd.R_alloc | apply Kd.R_drewN | apply Kd.R_drew)); exact HR4.out)); (case aS => exact HB.out.size); (case aL => have := HPL.out; simp; omega); intro v71 w12 ho hb hg hat; have n0_ := Aside0.mk hb; have n1_ := Aside0.mk ho; clear ho hb hg hat HR4 c0 c1 c2 hcx))
                    have HF2 := Aside0.mk (HF.out.below n0_.out)
                    have d1 := blk_cell HF2.out.own 1
                    have d2 := blk_cell HF2.out.own 2
                    simp only [List.getElem?_toArray, List.getElem?_cons_zero, List.getElem?_cons_succ] at d1 d2
                    have hcx := HF2.out.col x hlt
                    rw [HY.out] at hcx
                    have HBT := Aside0.mk (fun b W => bit_any b W)
                    by_cases c9 : y < H
                    · have c9z : decide (y < H) = true := decide_eq_true c9
                      rw [if_pos c9] at HMM
                      go_quiet ((go_at_call 79; exact Calls.quiet_of_same (HBT.out _ _)))
                      go_wp2_with fail
                      go_roundg (f.length - (x + r))
                      case measure => omega
                      case rel =>
                        exact ⟨x + r, many + extra H f x + 1, y :: p, by omega, by omega, by first | rfl | go_num, by first | rfl | go_num, by omega, by omega, HMM, ⟨by have := HPL.out; simp only [List.length_cons]; omega⟩, ⟨by (with_reducible repeat (first | apply Kd.R_alloc | apply Kd.R_drewN | apply Kd.R_drew)); rw [List.reverse_cons]; exact n1_.out⟩, ⟨by repeat (first | (with_reducible first | exact n0_.out | apply below_alloc | apply pw_below_drewN | apply below_drew1) | exact n0_.out)⟩⟩
                    · have c9z : decide (y < H) = false := decide_eq_false c9
                      rw [if_neg c9] at HMM
                      go_quiet ((go_at_call 79; exact Calls.quiet_of_same (HBT.out _ _)))
                      go_wp2_with fail
                      go_roundg (f.length - (x + r))
                      case measure => omega
                      case rel =>
                        exact ⟨x + r, many + extra H f x + 0, y :: p, by omega, by omega, by first | rfl | go_num, by first | rfl | go_num, by omega, by omega, HMM, ⟨by have := HPL.out; simp only [List.length_cons]; omega⟩, ⟨by (with_reducible repeat (first | apply Kd.R_alloc | apply Kd.R_drewN | apply Kd.R_drew)); rw [List.reverse_cons]; exact n1_.out⟩, ⟨by repeat (first | (with_reducible first | exact n0_.out | apply below_alloc | apply pw_below_drewN | apply below_drew1) | exact n0_.out)⟩⟩
                  | false =>
                    rw [if_neg (by decide), if_neg (by decide)] at HMM
                    go_wp2_with fail
                    go_roundg (f.length - (x + r))
                    case measure => omega
                    case rel =>
                      exact ⟨x + r, many + extra H f x, p, by omega, by omega, rfl, by go_num, by omega, by omega, HMM, ⟨Nat.le_trans HPL.out (by omega)⟩, ⟨Kd.R_drewN HR4.out _⟩, ⟨pw_below_drewN HB.out _⟩⟩
    · have hlz : decide (x < f.length) = false := decide_eq_false hlt
      have hL : many = least H f := by
        obtain ⟨m, hm, h⟩ := HM.out
        obtain ⟨m, rfl⟩ : ∃ q, m = q + 1 := ⟨m - 1, by omega⟩
        simp only [leastL] at h
        rw [if_neg hlt] at h
        exact h
      have HLL := Aside0.mk hL
      clear hL
      go_wp2
      go_ret
      exact ⟨by rw [HLL.out]; rfl, HB.out⟩

end Go.Proofs.Ytfmhcgjmgaefcab.P

namespace Go.Proofs.Ytfmhcgjmgaefcab.P
open Go.RowKit Go.Proofs.YtfmhcgjmgaefcabW.PrintWords Go.Proofs.YtfmhcgjmgaefcabW.PrintLast Go.Proofs.YtfmhcgjmgaefcabW.PrintMore
attribute [local go_sem] max2_int min2_int max_two min_two max_three min_three max_four min_four
set_option linter.unusedVariables false
set_option linter.unusedSimpArgs false

/-! ### slices_Index_int_int: function 92 -/
def slices_Index_int_int.l0 : Nat → List Int → Int → Int → Int → Option (Int)
  | 0, _, _, _, _ => none
  | k + 1, x0, x1, x7, x8 => if x8 < x7 then (if 0 ≤ x8 then (if x8 < (x0.length : Int) then (if x1 = (rd x0 x8) then (some x8) else (slices_Index_int_int.l0 k x0 x1 x7 (wrap64 (x8 + 1)))) else (none)) else (none)) else (some (-1))
def slices_Index_int_int.f (k : Nat) (l0 : List Int) (a1 : Int) : Option (Int) := slices_Index_int_int.l0 k l0 a1 (l0.length : Int) 0
theorem slices_Index_int_int.mono_l : ∀ k, (∀ y0 y1 y2 y3, LeO (slices_Index_int_int.l0 k y0 y1 y2 y3) (slices_Index_int_int.l0 (k + 1) y0 y1 y2 y3))
  | 0 => fun _ _ _ _ r h => by simp [slices_Index_int_int.l0] at h
  | k + 1 => by
    have ih0 := slices_Index_int_int.mono_l k
    · intro y0 y1 y2 y3
      unfold slices_Index_int_int.l0
      repeat' first
      | (with_reducible exact ih0 _ _ _ _)
      | (with_reducible exact LeO.refl _)
      | (with_reducible exact LeO.none _)
      | (with_reducible refine LeO.ite ?_ ?_)
      | (with_reducible refine LeO.bind ?_ (fun _ => ?_))
      | exact ih0 _ _ _ _
      | exact LeO.none _
      | refine LeO.ite ?_ ?_
      | refine LeO.bind ?_ (fun _ => ?_)
theorem slices_Index_int_int.mono : ∀ a0 a1 k, LeO (slices_Index_int_int.f k a0 a1) (slices_Index_int_int.f (k + 1) a0 a1) := by
  intro a0 a1 k
  have ih0 := slices_Index_int_int.mono_l k
  unfold slices_Index_int_int.f
  repeat' first
      | (with_reducible exact ih0 _ _ _ _)
      | (with_reducible exact LeO.refl _)
      | (with_reducible exact LeO.none _)
      | (with_reducible refine LeO.ite ?_ ?_)
      | (with_reducible refine LeO.bind ?_ (fun _ => ?_))
      | exact ih0 _ _ _ _
      | exact LeO.none _
      | refine LeO.ite ?_ ?_
      | refine LeO.bind ?_ (fun _ => ?_)
set_option maxHeartbeats 8000000 in
set_option maxRecDepth 100000 in
theorem slices_Index_int_int.calls (k : Nat) (A0 : Option Addr) (c0 : Nat) (l0 : List Int) (a1 : Int) (r : Int) (w : World) (hr0 : Kd.C (Kd.int .i64) w A0 l0.length l0) (hc0 : l0.length ≤ c0) (h : slices_Index_int_int.f k l0 a1 = some r) :
    Calls Try.prog 92 #[.slice A0 l0.length c0, .int .i64 a1] w fun e w' => e = .returned (.int .i64 r) ∧ Drawn0 w w' := by
  have HR0 := Aside0.mk hr0
  have HC0 := Aside0.mk hc0
  clear hr0 hc0
  have H : (slices_Index_int_int.l0 k l0 a1 (l0.length : Int) 0) = some r := h
  clear h
  have H' := Aside0.mk H
  clear H
  go_enter Try.func92, Try.ntmps92
  go_wp2
  go_loopg [8] k (fun kq v8 w' => ∃ (x8_1 : Int), v8 = .int .i64 x8_1 ∧ Aside0 (slices_Index_int_int.l0 kq l0 a1 (l0.length : Int) x8_1 = some r) ∧ Aside0 (kq ≤ k) ∧ Drawn0 w w')
  case atStart => exact ⟨(0), (by first | rfl | (simp; done) | (simp [*]; done)), H', ⟨Nat.le_refl _⟩, by repeat (first | exact Drawn0.refl _ | apply Drawn0.step)⟩
  case round =>
    clear H'
    try clear p2
    obtain ⟨x8_1, rfl, HA, HK1, ⟨m1, rfl⟩⟩ := hrel
    cases gk with
    | zero => exact absurd HA.out (by simp [slices_Index_int_int.l0])
    | succ k1 =>
      have H := HA.out
      clear HA
      simp only [slices_Index_int_int.l0] at H
      by_cases c3 : x8_1 < (l0.length : Int)
      · rw [if_pos c3] at H
        have c3b0 : decide (x8_1 < (l0.length : Int)) = true := decide_eq_true c3
        clear c3
        by_cases c4 : 0 ≤ x8_1
        · rw [if_pos c4] at H
          have c4b0 : decide (0 ≤ x8_1) = true := decide_eq_true c4
          clear c4
          by_cases c5 : x8_1 < (l0.length : Int)
          · rw [if_pos c5] at H
            have c5b0 : decide (x8_1 < (l0.length : Int)) = true := decide_eq_true c5
            clear c5
            by_cases c6 : a1 = (rd l0 x8_1)
            · rw [if_pos c6] at H
              have c6b0 : (a1 == (rd l0 x8_1)) = true := beq_iff_eq.mpr c6
              have c6b1 : (a1 != (rd l0 x8_1)) = false := bne_eq_false_iff_eq.mpr c6
              clear c6
              obtain rfl := Option.some.inj H
              have p101 : 0 ≤ (x8_1 : Int) := of_decide_eq_true (by first | (with_reducible assumption) | assumption)
              have q101 : x8_1 < (l0.length : Int) := of_decide_eq_true (by first | (with_reducible assumption) | assumption)
              obtain ⟨ad101, e101, hx101_0⟩ := Kd.at_int HR0.out x8_1 p101 q101
              cases e101
              replace p101 := eq_true p101
              replace q101 := eq_true q101
              go_wp2
              go_ret
              exact ⟨by first | rfl | (simp; done) | (simp [*]; done), by repeat (first | exact Drawn0.refl _ | apply Drawn0.step)⟩
            · rw [if_neg c6] at H
              have c6b0 : (a1 == (rd l0 x8_1)) = false := beq_eq_false_iff_ne.mpr c6
              have c6b1 : (a1 != (rd l0 x8_1)) = true := bne_iff_ne.mpr c6
              have H' := Aside0.mk H
              clear H
              have p101 : 0 ≤ (x8_1 : Int) := of_decide_eq_true (by first | (with_reducible assumption) | assumption)
              have q101 : x8_1 < (l0.length : Int) := of_decide_eq_true (by first | (with_reducible assumption) | assumption)
              obtain ⟨ad101, e101, hx101_0⟩ := Kd.at_int HR0.out x8_1 p101 q101
              cases e101
              replace p101 := eq_true p101
              replace q101 := eq_true q101
              go_wp2
              go_roundg k1
              case measure => have := HK1.out; omega
              case rel => exact ⟨(wrap64 (x8_1 + 1)), (by first | rfl | (simp; done) | (simp [*]; done)), H', ⟨by have := HK1.out; omega⟩, by repeat (first | exact Drawn0.refl _ | apply Drawn0.step)⟩
          · rw [if_neg c5] at H
            exact absurd H (by simp)
        · rw [if_neg c4] at H
          exact absurd H (by simp)
      · rw [if_neg c3] at H
        have c3b0 : decide (x8_1 < (l0.length : Int)) = false := decide_eq_false c3
        clear c3
        obtain rfl := Option.some.inj H
        go_wp2
        go_ret
        exact ⟨by first | rfl | (simp; done) | (simp [*]; done), by repeat (first | exact Drawn0.refl _ | apply Drawn0.step)⟩

end Go.Proofs.Ytfmhcgjmgaefcab.P

namespace Go.Proofs.Ytfmhcgjmgaefcab.T
set_option linter.unusedVariables false
section
variable {σ α : Type}
def RunQ (Q : σ → α → Prop) (step : σ → α → σ × Bool) : σ → List α → Prop
  | _, [] => True
  | s, t :: l => Q s t ∧ ((step s t).2 = true → RunQ Q step (step s t).1 l)
variable {Q : σ → α → Prop} {step : σ → α → σ × Bool}
theorem RunQ.triv (h : ∀ s t, Q s t) : ∀ (l : List α) (s : σ), RunQ Q step s l
  | [], _ => trivial
  | t :: l, s => ⟨h s t, fun _ => RunQ.triv h l _⟩
theorem RunQ.of_mem : ∀ (l : List α) (s : σ), (∀ t ∈ l, ∀ s, Q s t) → RunQ Q step s l
  | [], _, _ => trivial
  | t :: l, s, h => ⟨h t List.mem_cons_self s, fun _ => RunQ.of_mem l _ (fun x hx => h x (List.mem_cons_of_mem _ hx))⟩
theorem RunQ.left : ∀ {A B : List α} {s : σ}, RunQ Q step s (A ++ B) → RunQ Q step s A
  | [], _, _, _ => trivial
  | t :: A, B, s, h => ⟨h.1, fun e => RunQ.left (h.2 e)⟩
theorem RunQ.right : ∀ {A B : List α} {s s' : σ}, RunQ Q step s (A ++ B) → foldE step s A = (s', true) → RunQ Q step s' B
  | [], B, s, s', h, e => by
    simp only [foldE, Prod.mk.injEq, and_true] at e
    subst e; exact h
  | t :: A, B, s, s', h, e => by
    simp only [foldE] at e
    cases c : (step s t).2 with
    | true =>
      have e' : foldE step (step s t).1 A = (s', true) := by
        first
          | (rw [c] at e; simpa using e)
          | (split at e <;> simp_all)
      exact RunQ.right (h.2 c) e'
    | false =>
      exfalso
      first
        | (rw [c] at e; simp at e)
        | (split at e <;> simp_all)
end
end Go.Proofs.Ytfmhcgjmgaefcab.T

namespace Go.Proofs.Ytfmhcgjmgaefcab.Gr
open Go Go.RowKit
/-- A world in which all that lay in X lies unturned. -/
structure Gr (X : World) where
  W : World
  h : Below X.heap.size X W
instance (X : World) : Inhabited (Gr X) := ⟨⟨X, Below.refl _ _⟩⟩
theorem wp_region_gr {P : Program} {id : Nat} {Q : Exit → Act → World → Prop} {a : Act} {X : World} {l : List Oper} (hm : P.follows .mixedOrders = true) (hB : Region.lexB .any l.toArray = true)
    (h : wpQuiet P l.toArray (fun W => ∃ p : Gr X, W = p.W) (fun a' => ∀ w', (∃ p : Gr X, w' = p.W) → Q .normal a' w') l a) : (Code.region id l.toArray true).wp P Q a X :=
  wp_region_quiet (C := fun W => ∃ p : Gr X, W = p.W) hm hB ⟨⟨{ X with drawn := X.drawn + 1 }, (Below.refl X.heap.size X).drew⟩, rfl⟩ (by simpa using h)
theorem cell_gr {X : World} {a : Addr} {v : Value} (hb : a.block < X.heap.size) (h : X.cell? a = some v) (p : Gr X) : p.W.cell? a = some v := (p.h.cell hb).trans h
theorem Calls.gr_of {P : Program} {f : FuncId} {args : Array Value} {X : World} {p : Gr X} {v : Value} (h : Calls P f args p.W fun e w' => e = .returned v ∧ Below p.W.heap.size p.W w') :
    Calls P f args p.W fun e w'' => e = .returned v ∧ ∃ q : Gr X, w'' = q.W :=
  h.mono fun _ w' ⟨he, hb⟩ => ⟨he, ⟨⟨w', p.h.trans (hb.mono p.h.size)⟩, rfl⟩⟩
end Go.Proofs.Ytfmhcgjmgaefcab.Gr

namespace Go.Proofs.Ytfmhcgjmgaefcab.P
open Go.RowKit Go.Proofs.YtfmhcgjmgaefcabW.PrintWords Go.Proofs.YtfmhcgjmgaefcabW.PrintLast Go.Proofs.YtfmhcgjmgaefcabW.PrintMore
attribute [local go_sem] max2_int min2_int max_two min_two max_three min_three max_four min_four
set_option linter.unusedVariables false
set_option linter.unusedSimpArgs false

/-! ### impl_filler_fill: function 82 -/
open Go.Proofs.Ytfmhcgjmgaefcab.T Go.Proofs.Ytfmhcgjmgaefcab.Gr Go.Proofs.Ytfmhcgjmgaefcab.Aid
/-- what lay below base stands, but for the blocks of X -/
structure Fr (base : Nat) (X : Nat → Prop) (w w' : World) : Prop where
  os : w'.os = w.os
  tape : w'.tape = w.tape
  output : w'.output = w.output
  size : w.heap.size ≤ w'.heap.size
  block : ∀ k, k < base → ¬ X k → w'.heap[k]? = w.heap[k]?
theorem Fr.refl (base : Nat) (X : Nat → Prop) (w : World) : Fr base X w w := ⟨rfl, rfl, rfl, Nat.le_refl _, fun _ _ _ => rfl⟩
theorem Fr.trans {b b' : Nat} {X X' : Nat → Prop} {w w1 w2 : World} (h : Fr b X w w1) (k : Fr b' X' w1 w2) (hb : b ≤ b') (hx : ∀ j, j < b → X' j → X j) : Fr b X w w2 :=
  ⟨k.os.trans h.os, k.tape.trans h.tape, k.output.trans h.output, Nat.le_trans h.size k.size, fun j hj hn => (k.block j (by omega) (fun hk => hn (hx j hj hk))).trans (h.block j hj hn)⟩
theorem Fr.of_below {b : Nat} {X : Nat → Prop} {w w' : World} (h : Below w.heap.size w w') (hb : b ≤ w.heap.size) : Fr b X w w' := ⟨h.os, h.tape, h.output, h.size, fun k hk _ => h.block k (by omega)⟩
theorem Fr.below {b : Nat} {X : Nat → Prop} {w w1 w2 : World} (h : Fr b X w w1) (k : Below w1.heap.size w1 w2) (hb : b ≤ w.heap.size) : Fr b X w w2 :=
  h.trans (Fr.of_below (X := X) k (Nat.le_trans hb h.size)) (Nat.le_refl _) (fun _ _ hx => hx)
theorem Fr.set_ {b : Nat} {X : Nat → Prop} {w w1 : World} (h : Fr b X w w1) {p : Addr} (hp : b ≤ p.block) (u : Value) : Fr b X w (w1.setCell p u) :=
  ⟨h.os, h.tape, h.output, by simpa [World.setCell] using h.size, fun k hk hn => (Below.heap_setCell w1 p u k (by omega)).trans (h.block k hk hn)⟩
/-- a function that is called with each list of squares: it takes s to what 'step' says, and writes X's blocks alone -/
structure Each {σ : Type} (g : Nat) (lb : Array Value) (Q : σ → List Sq → Prop) (step : σ → List Sq → σ × Bool) (I : σ → World → (Nat → Prop) → Prop) : Prop where
  bd : ∀ {s W X}, I s W X → ∀ k, X k → k < W.heap.size
  mv : ∀ {s W W' X}, I s W X → (∀ k, X k → W'.heap[k]? = W.heap[k]?) → I s W' X
  eg : ∀ args w, (callFunc g args).run Try.prog w = .ok (.enter g args) w
  call : ∀ s W X A c sq, I s W X → Kd.C k57 W A sq.length sq → sq.length ≤ c → Q s sq → Calls Try.prog g (#[.slice A sq.length c] ++ lb) W fun e W' =>
    e = .returned (.bool (step s sq).2) ∧ ∃ X', I (step s sq).1 W' X' ∧ (∀ k, X' k → X k ∨ W.heap.size ≤ k) ∧ Fr W.heap.size X W W'
/-- the filler, its columns, its squares, and the state of what is called -/
structure FS {σ : Type} (I : σ → World → (Nat → Prop) → Prop) (base F G : Nat) (H most : Int) (ev : Value) (f : List Int) (sq : List Sq) (vS : Value) (s : σ) (X : Nat → Prop) (w : World) : Prop where
  st : I s w X
  fil : Fil w F G H most f vS ev
  row : Kd.R k57 57 w base (fun k => ¬ X k) vS sq
  nF : ¬ X F
  nG : ¬ X G
  size : base ≤ w.heap.size
section
variable {σ : Type} {g : Nat} {lb : Array Value} {Q : σ → List Sq → Prop} {step : σ → List Sq → σ × Bool} {I : σ → World → (Nat → Prop) → Prop} {base F G : Nat} {H most : Int} {ev vS : Value} {f : List Int} {sq : List Sq} {s : σ} {X : Nat → Prop} {w w1 : World}
theorem FS.ne (h : FS I base F G H most ev f sq vS s X w) : F ≠ G := blk_ne h.fil.own h.fil.cols (by decide)
theorem FS.below (E : Each g lb Q step I) (h : FS I base F G H most ev f sq vS s X w) (hb : Below w.heap.size w w1) : FS I base F G H most ev f sq vS s X w1 :=
  ⟨E.mv h.st (fun k hk => hb.block k (E.bd h.st k hk)), h.fil.below hb, Kd.R_below h.row hb, h.nF, h.nG, Nat.le_trans h.size hb.size⟩
theorem FS.col (E : Each g lb Q step I) (h : FS I base F G H most ev f sq vS s X w) (i : Nat) (hi : i < f.length) (v : Int) : FS I base F G H most ev (f.set i v) sq vS s X (w.setCell ⟨G, i, none⟩ (.int .i64 v)) := by
  have hne := h.ne
  refine ⟨E.mv h.st (fun k hk => Below.heap_setCell w _ _ k (fun e => h.nG (by subst e; exact hk))), ⟨?_, ?_⟩, ?_, h.nF, h.nG, by simpa [World.setCell] using h.size⟩
  · rw [List.length_set]
    exact blk_far h.fil.own (p := ⟨G, i, none⟩) hne _
  · refine blk_put h.fil.cols i _ ?_
    simp [List.map_set]
  · exact Kd.R_mono (Kd.R_far (p := ⟨G, i, none⟩) (Kd.R_types h.row h.fil.cols (by decide)) (fun _ hk => hk.2) _) (fun _ hk => hk.1)
theorem FS.put3 (E : Each g lb Q step I) {sq' : List Sq} {v1 : Value} (hst : I s w1 X) (hfil : Fil w1 F G H most f vS ev) (hrow : Kd.R k57 57 w1 base (fun k => ¬ X k) v1 sq') (nF : ¬ X F) (nG : ¬ X G) (hz : base ≤ w1.heap.size) :
    FS I base F G H most ev f sq' v1 s X (w1.setCell ⟨F, 3, none⟩ v1) := by
  have hne : F ≠ G := blk_ne hfil.own hfil.cols (by decide)
  refine ⟨E.mv hst (fun k hk => Below.heap_setCell w1 _ _ k (fun e => nF (by subst e; exact hk))), ⟨?_, ?_⟩, ?_, nF, nG, by simpa [World.setCell] using hz⟩
  · exact blk_put hfil.own 3 _ rfl
  · exact blk_far hfil.cols (p := ⟨F, 3, none⟩) (Ne.symm hne) _
  · exact Kd.R_mono (Kd.R_far (p := ⟨F, 3, none⟩) (Kd.R_types hrow hfil.own (by decide)) (fun _ hk => hk.2) _) (fun _ hk => hk.1)
theorem FS.grown (E : Each g lb Q step I) (h : FS I base F G H most ev f sq vS s X w) (hg : w.grownBy w1 vS.ownBlock) : I s w1 X ∧ Fil w1 F G H most f vS ev ∧ Fr base X w w1 := by
  refine ⟨E.mv h.st (fun k hk => hg.block k (E.bd h.st k hk) (fun e => h.row.1 k e.symm hk)), ⟨blk_grown h.fil.own hg (Kd.R_ne h.row h.fil.own (by decide)), blk_grown h.fil.cols hg (Kd.R_ne h.row h.fil.cols (by decide))⟩, hg.os, hg.tape, hg.output, hg.size, fun k hk _ => hg.block k (Nat.lt_of_lt_of_le hk h.size) (fun e => ?_)⟩
  have := Kd.R_base h.row k e.symm
  omega
theorem FS.cut {q : Sq} {A : Option Addr} {n c : Nat} (E : Each g lb Q step I) (h : FS I base F G H most ev f (sq ++ [q]) (.slice A n c) s X w) : FS I base F G H most ev f sq (.slice A sq.length c) s X (w.setCell ⟨F, 3, none⟩ (.slice A sq.length c)) := by
  refine FS.put3 E h.st h.fil ?_ h.nF h.nG h.size
  have := Kd.R_take h.row (m := sq.length) (by simp)
  rwa [List.take_left] at this
end
section
variable {σ : Type} {g : Nat} {lb : Array Value} {Q : σ → List Sq → Prop} {step : σ → List Sq → σ × Bool} {I : σ → World → (Nat → Prop) → Prop} {base F G : Nat} {H most : Int} {ev vS : Value} {f : List Int} {sq : List Sq} {s s' : σ} {X X' : Nat → Prop} {w w1 : World}
theorem FS.called (h : FS I base F G H most ev f sq vS s X w) (hI : I s' w1 X') (hsub : ∀ k, X' k → X k ∨ w.heap.size ≤ k) (hfr : Fr w.heap.size X w w1) : FS I base F G H most ev f sq vS s' X' w1 := by
  have hF := blk_lt h.fil.own
  have hG := blk_lt h.fil.cols
  refine ⟨hI, ⟨(hfr.block F hF h.nF).trans h.fil.own, (hfr.block G hG h.nG).trans h.fil.cols⟩, ?_, fun hk => ?_, fun hk => ?_, Nat.le_trans h.size hfr.size⟩
  · refine Kd.R_mono (Kd.R_step (Kd.R_bound h.row) (fun k hk hlt => hfr.block k hlt hk.1)) (fun k hk hx => ?_)
    rcases hsub k hx with h1 | h1
    · exact hk.1 h1
    · have := hk.2.2.1; omega
  · rcases hsub F hk with h1 | h1
    · exact h.nF h1
    · omega
  · rcases hsub G hk with h1 | h1
    · exact h.nG h1
    · omega
end
theorem foldE_one {σ α : Type} (step : σ → α → σ × Bool) (s : σ) (t : α) : foldE step s [t] = step s t := by
  simp only [foldE]
  cases c : (step s t).2
  · exact Prod.ext rfl c.symm
  · exact Prod.ext rfl c.symm
theorem leastL_bd {h : Int} {f : List Int} (hh : h ≤ 1000) (hf : ∀ c, c < f.length → 0 ≤ ht f c ∧ ht f c ≤ h) : ∀ (n x : Nat) (many : Int) (st : List Int), x ≤ f.length → leastL h f n x many st ≤ many + 1001 * ((f.length : Int) - x)
  | 0, x, many, st, hx => by simp only [leastL]; omega
  | n + 1, x, many, st, hx => by
    simp only [leastL]
    by_cases c : x < f.length
    · rw [if_pos c]
      have he := extra_bd c hf hh
      have hr := runAt_pos f x c
      have hl := runAt_le f x hx
      cases hp : pop (ht f x) st with
      | nil =>
        have := leastL_bd hh hf n (x + runAt f x) (many + extra h f x + if ht f x < h then 1 else 0) [ht f x] hl
        have h1 : (if ht f x < h then (1 : Int) else 0) ≤ 1 := by split <;> omega
        simp only [hp]
        omega
      | cons z r =>
        simp only [hp]
        by_cases c2 : ht f x < z
        · rw [if_pos c2]
          have := leastL_bd hh hf n (x + runAt f x) (many + extra h f x + if ht f x < h then 1 else 0) (ht f x :: z :: r) hl
          have h1 : (if ht f x < h then (1 : Int) else 0) ≤ 1 := by split <;> omega
          omega
        · rw [if_neg c2]
          have := leastL_bd hh hf n (x + runAt f x) (many + extra h f x) (z :: r) hl
          omega
    · rw [if_neg c]; omega
theorem least_bd {h : Int} {f : List Int} (hh : h ≤ 1000) (hn : f.length ≤ 1000) (hf : ∀ c, c < f.length → 0 ≤ ht f c ∧ ht f c ≤ h) : 0 ≤ least h f ∧ least h f ≤ 1001000 := by
  have h1 := leastL_ge f h (f.length + 1) 0 0 []
  have h2 := leastL_bd hh hf (f.length + 1) 0 0 [] (by omega)
  unfold least
  omega
theorem index_l (f : List Int) (hn : f.length ≤ 1000) (x : Nat) (hx : x < f.length) (hb : ∀ c, c < x → ht f c ≠ ht f x) : ∀ (d i : Nat), i + d = x → Ev (fun k => slices_Index_int_int.l0 k f (ht f x) (f.length : Int) i) (x : Int)
  | 0, i, hd => by
    obtain rfl : i = x := by omega
    exact Ev.step (fun _ => slices_Index_int_int.l0.eq_2 ..) (ev_pos (by omega) (ev_pos (by omega) (ev_pos (by omega) (ev_pos (by simp [rd, ht]) (ev_some rfl)))))
  | d + 1, i, hd => Ev.step (fun _ => slices_Index_int_int.l0.eq_2 ..) (ev_pos (by omega) (ev_pos (by omega) (ev_pos (by omega) (ev_neg (fun e => hb i (by omega) (by rw [e]; simp [rd, ht])) (by
      rw [w64 (by omega) (by omega)]
      exact index_l f hn x hx hb d (i + 1) (by omega))))))
theorem index_low (f : List Int) (hn : f.length ≤ 1000) (hne : f ≠ []) : ∃ k, slices_Index_int_int.f k f (ht f (low f)) = some (low f : Int) := by
  have L := low_spec f hne
  exact ev_at (index_l f hn (low f) L.lt (fun c hc => by have := L.first c hc; omega) (low f) 0 (by omega))
theorem Fil.reads {w : World} {F G : Nat} {H most : Int} {f : List Int} {vS each : Value} (h : Fil w F G H most f vS each) (hn : f.length ≤ 1000) : Kd.C (Kd.int .i64) w (some ⟨G, 0, none⟩) f.length f := by
  refine ⟨rfl, by omega, fun _ => ⟨_, rfl, fun j p hj => ⟨[.int .i64 p], rfl, rfl, fun i u hu => ?_⟩⟩⟩
  have hjl := (List.getElem?_eq_some_iff.1 hj).1
  have hi : i = 0 := by
    have := (List.getElem?_eq_some_iff.1 hu).1
    simpa using this
  subst hi
  injection hu with hu
  subst hu
  rw [add_plain, show j * (Kd.int .i64).sz + 0 = j from by show j * 1 + 0 = j; omega, h.col j hjl]
  simp [ht, hj]
/-- what a call of fill leaves -/
def FillPost {σ : Type} (I : σ → World → (Nat → Prop) → Prop) (base F G : Nat) (H most : Int) (ev : Value) (f : List Int) (sq : List Sq) (X : Nat → Prop) (r : σ × Bool) (w : World) (e : Ending) (w' : World) : Prop :=
  e = .returned (.bool r.2) ∧ ∃ X' vS', FS I base F G H most ev f sq vS' r.1 X' w' ∧ (∀ k, X' k → X k ∨ w.heap.size ≤ k) ∧ Fr base X w w'
set_option maxHeartbeats 8000000 in
set_option maxRecDepth 100000 in
theorem filler_fill {σ : Type} {g : Nat} {lb : Array Value} {Q : σ → List Sq → Prop} {step : σ → List Sq → σ × Bool} {I : σ → World → (Nat → Prop) → Prop} (E : Each g lb Q step I) (base F G : Nat) (H most : Int) (hH : H ≤ 1000) (hbF : base ≤ F) (hbG : base ≤ G) :
    ∀ (n : Nat) (f : List Int) (sq : List Sq) (vS : Value) (s : σ) (X : Nat → Prop) (w : World), FS I base F G H most (.func (.func g) #[] lb) f sq vS s X w → Fits f H → left H f < n → f.length ≤ 1000 → (∀ c, c < f.length → 0 ≤ ht f c) →
      sq.length + left H f ≤ 1000000 → RunQ Q step s (fillP H most n f sq) →
      Calls Try.prog 82 #[.pointer (some ⟨F, 0, none⟩)] w (FillPost I base F G H most (.func (.func g) #[] lb) f sq X (foldE step s (fillP H most n f sq)) w) := by
  intro n
  induction n with
  | zero => intro f sq vS s X w _ _ hn; omega
  | succ n ih =>
    intro f sq vS s X w hFS hfit hleft hlen hpos hsq hQ
    have L := low_spec f hfit.1
    have hcap : ∀ c, c < f.length → 0 ≤ ht f c ∧ ht f c ≤ H := fun c hc => ⟨hpos c hc, hfit.2 c hc⟩
    have hxl := L.lt
    have hyb := hcap _ hxl
    obtain ⟨kI, hI⟩ := index_low f hlen hfit.1
    have HMIN := Aside0.mk (fun W h => slices_Min_int f G W h (by omega) hlen)
    have HIDX := Aside0.mk hI
    have HS := Aside0.mk hFS
    have HIH := Aside0.mk ih
    have HFIT := Aside0.mk hfit
    have HL := Aside0.mk L
    have HCAP := Aside0.mk hcap
    have HQ := Aside0.mk hQ
    have HSQ := Aside0.mk hsq
    have HLEFT := Aside0.mk hleft
    have HE := Aside0.mk E
    clear hI hFS ih hfit L hcap hpos hQ hsq hleft E
    generalize hy : ht f (low f) = y at HMIN HIDX hyb
    have HY := Aside0.mk hy
    clear hy
    generalize hx : low f = x at HIDX hxl HY
    have HX := Aside0.mk hx
    clear hx
    have c0 := blk_cell HS.out.fil.own 0
    have c1 := blk_cell HS.out.fil.own 1
    have c2 := blk_cell HS.out.fil.own 2
    have c3 := blk_cell HS.out.fil.own 3
    have c4 := blk_cell HS.out.fil.own 4
    have c5 := blk_cell HS.out.fil.own 5
    simp only [List.getElem?_toArray, List.getElem?_cons_zero, List.getElem?_cons_succ] at c0 c1 c2 c3 c4 c5
    obtain ⟨A, c, e⟩ := Kd.R_slice HS.out.row
    subst e
    go_enter Try.func82, Try.ntmps82
    go_wp2_with fail
    refine (HMIN.out _ (fun i hi => HS.out.fil.col i hi)).mono ?_
    rintro e w' ⟨rfl, rfl⟩
    by_cases hyH : y = H
    · have hyz : (y == H) = true := by simp [hyH]
      have HYH := Aside0.mk hyH
      clear hyH
      have hfP : fillP H most (n + 1) f sq = [sq] := by simp only [fillP]; rw [HX.out, HY.out, if_pos HYH.out]
      have HFP := Aside0.mk hfP
      clear hfP
      go_wp2_with fail
      have HS2 := Aside0.mk (HS.out.below HE.out ((Below.refl w.heap.size w).drew))
      have HFR2 := Aside0.mk (Fr.of_below (X := X) (b := base) ((Below.refl w.heap.size w).drew) HS.out.size)
      have hZ : Aside0 (w.drew.heap.size = w.heap.size) := ⟨rfl⟩
      go_still_tail 8, (by kernel_rfl)
      change wpList _ _ _ _ _ w.drew
      generalize w.drew = w2 at HS2 HFR2 hZ ⊢
      have eg := HE.out.eg
      have HCALL := Aside0.mk (HE.out.call s w2 X A c sq HS2.out.st (Kd.R_reads' HS2.out.row).2.2 (Kd.R_reads' HS2.out.row).2.1 (by have h_ := HQ.out; rw [HFP.out] at h_; exact h_.1))
      go_wp2_with (go_at_fn g; refine HCALL.out.mono ?_; rintro e w' ⟨rfl, X', hI', hsub, hfr⟩)
      go_ret
      rw [HFP.out, foldE_one]
      exact ⟨rfl, X', _, HS2.out.called hI' hsub hfr, fun k hk => by rw [← hZ.out]; exact hsub k hk, HFR2.out.trans hfr HS2.out.size (fun _ _ hx => hx)⟩
    · have hyz : (y == H) = false := by simp [hyH]
      have HYH := Aside0.mk hyH
      clear hyH
      have hlb := least_bd hH hlen HCAP.out
      have HLE := Aside0.mk (fun W (hW : Below w.heap.size w W) => filler_least W F G H most f _ _ (HS.out.fil.below hW) hlen hH HCAP.out)
      generalize hls : least H f = ls at HLE hlb
      have HLS := Aside0.mk hls
      clear hls
      have hFlt := blk_lt HS.out.fil.own
      have g3 := fun p => cell_gr (p := p) hFlt c3
      have g4 := fun p => cell_gr (p := p) hFlt c4
      have hsl := HSQ.out
      have hw : IntKind.i64.wrap ((sq.length : Int) + ls) = (sq.length : Int) + ls := (i64_w _).trans (w64 (by omega) (by omega))
      go_wp2_with fail
      refine wp_region_gr (by kernel_rfl) (by kernel_rfl) ?_
      repeat (go_big_quiet_step ((go_at_call 91; refine Calls.gr_of (HLE.out _ (Gr.h _)))))
      refine wpQuiet_nil ?_
      intro W2 hw'
      obtain ⟨⟨V2, hB2⟩, hw''⟩ := hw'
      replace hw'' : W2 = V2 := hw''
      subst hw''
      have HS2 := Aside0.mk (HS.out.below HE.out hB2)
      have HFR2 := Aside0.mk (Fr.of_below (X := X) (b := base) hB2 HS.out.size)
      have HSZ := Aside0.mk hB2.size
      clear g3 g4 c0 c1 c2 c3 c4 c5 hB2 hw
      by_cases hpr : most < (sq.length : Int) + ls
      · have hpz : decide (most < (sq.length : Int) + ls) = true := decide_eq_true hpr
        have hfP : fillP H most (n + 1) f sq = [] := by simp only [fillP]; rw [HX.out, HY.out, if_neg HYH.out, HLS.out, if_pos hpr]
        have HFP := Aside0.mk hfP
        clear hfP
        go_wp2_with fail
        go_ret
        rw [HFP.out]
        exact ⟨rfl, X, _, HS2.out, fun k hk => .inl hk, HFR2.out⟩
      · have hpz : decide (most < (sq.length : Int) + ls) = false := decide_eq_false hpr
        have c2 := blk_cell HS2.out.fil.own 2
        simp only [List.getElem?_toArray, List.getElem?_cons_zero, List.getElem?_cons_succ] at c2
        go_wp2_with (go_at_call 92; refine (slices_Index_int_int.calls kI (some ⟨G, 0, none⟩) f.length f y (x : Int) _ (HS2.out.fil.reads hlen) (Nat.le_refl _) HIDX.out).mono ?_; rintro e w' ⟨rfl, ⟨nd, rfl⟩⟩)
        have HS3 := Aside0.mk (HS2.out.below HE.out (pw_below_drewN (Below.refl _ _) nd))
        have HFR3 := Aside0.mk (HFR2.out.below (pw_below_drewN (Below.refl _ _) nd) HS.out.size)
        have HSZ3 : Aside0 (w.heap.size ≤ (W2.drewN nd).heap.size) := HSZ
        generalize W2.drewN nd = W3 at HS3 HFR3 HSZ3 ⊢
        obtain ⟨ch, hch⟩ : ∃ ch : Nat → List (List Sq), (fun (i : Nat) => fillP H most n (place f x (i + 1) (y + (i + 1 : Nat))) (sq ++ [⟨x, y, (i + 1 : Nat)⟩])) = ch := ⟨_, rfl⟩
        have HCH := Aside0.mk hch
        obtain ⟨rm, hrm⟩ : ∃ rm, room f H x = rm := ⟨_, rfl⟩
        have HRM := Aside0.mk hrm
        have hfP : fillP H most (n + 1) f sq = (List.range rm).flatMap ch := by
          simp only [fillP]
          rw [HX.out, HY.out, if_neg HYH.out, HLS.out, if_neg (by omega), hrm, ← hch]
        have HFP := Aside0.mk hfP
        have hrl : rm ≤ 1000 := by
          have := runAt_le f x (by omega)
          rw [← hrm]; unfold room; omega
        clear hfP hch hrm HIDX HMIN HLE HS2 HFR2 c2 hpz hpr
        go_loopg [5] rm (fun kq v5 wc => ∃ (i : Nat) (s1 : σ) (X1 : Nat → Prop) (vS1 : Value), i ≤ rm ∧ rm - i ≤ kq ∧ v5 = .int .i64 ((i + 1 : Nat) : Int) ∧ Aside0 (foldE step s ((List.range i).flatMap ch) = (s1, true)) ∧ Aside0 (FS I base F G H most (.func (.func g) #[] lb) f sq vS1 s1 X1 wc) ∧ Aside0 (∀ k, X1 k → X k ∨ w.heap.size ≤ k) ∧ Aside0 (Fr base X w wc) ∧ Aside0 (w.heap.size ≤ wc.heap.size))
        case atStart => exact ⟨0, s, X, _, by omega, by omega, rfl, ⟨rfl⟩, HS3, ⟨fun k hk => .inl hk⟩, HFR3, HSZ3⟩
        case round =>
          clear HS3 HFR3 HSZ3 HSZ
          obtain ⟨i, s1, X1, vS1, hi, hkq, rfl, HFO, HS1, HSUB, HFR, HSZ⟩ := hrel
          have d0 := blk_cell HS1.out.fil.own 0
          have d1 := blk_cell HS1.out.fil.own 1
          have d2 := blk_cell HS1.out.fil.own 2
          have d3 := blk_cell HS1.out.fil.own 3
          simp only [List.getElem?_toArray, List.getElem?_cons_zero, List.getElem?_cons_succ] at d0 d1 d2 d3
          have hriff := room_iff f H x hxl i (by rw [HY.out]; omega) (by rw [HRM.out]; exact hi)
          rw [HRM.out, HY.out] at hriff
          have HRI := Aside0.mk hriff
          clear hriff
          by_cases hir : i < rm
          · obtain ⟨h1, h2, h3⟩ := HRI.out.1 hir
            have e1 : (x : Int) + ((i : Int) + 1) ≤ (f.length : Int) := by omega
            have e2 : y + ((i : Int) + 1) ≤ H := by omega
            have hcol : wr.cell? ⟨G, x + i, none⟩ = some (.int .i64 y) := by rw [HS1.out.fil.col (x + i) (by omega), h3]
            have H3 := Aside0.mk h3
            clear h3
            have hplen : ∀ k Y, k ≤ i + 1 → (place f x k Y).length = f.length := fun k Y hk => place_length f x k Y (by omega)
            have HPLEN := Aside0.mk hplen
            clear hplen
            go_upto_block 1 with (fail)
            clear d0 d1 d2 d3 hcol
            go_wp2_with fail
            go_loopg [6, 83] (i + 1) (fun kq v6 v83 wc => ∃ (k : Nat), k ≤ i + 1 ∧ i + 1 - k ≤ kq ∧ v83 = .int .i64 (k : Int) ∧ Aside0 (FS I base F G H most (.func (.func g) #[] lb) (place f x k (y + ((i : Int) + 1))) sq vS1 s1 X1 wc) ∧ Aside0 (Fr base X w wc) ∧ Aside0 (w.heap.size ≤ wc.heap.size))
            case atStart => exact ⟨0, by omega, by omega, rfl, by rw [place_zero]; exact HS1, HFR, HSZ⟩
            case round =>
              clear HS1 HFR HSZ
              obtain ⟨k, hk, hkq2, rfl, HS1, HFR, HSZ⟩ := hrel
              have hpl := HPLEN.out k (y + ((i : Int) + 1)) hk
              have d2 := blk_cell HS1.out.fil.own 2
              have d3 := blk_cell HS1.out.fil.own 3
              rw [hpl] at d2
              simp only [List.getElem?_toArray, List.getElem?_cons_zero, List.getElem?_cons_succ] at d2 d3
              by_cases hki : k < i + 1
              · have e3 : (k : Int) < (i : Int) + 1 := by omega
                have e4 : (x : Int) + (k : Int) < (f.length : Int) := by omega
                have hcol := HS1.out.fil.col (x + k) (by rw [hpl]; omega)
                have hfz := blk_frozen HS1.out.fil.cols (x + k)
                clear d3 hpl
                generalize ht (place f x k (y + ((i : Int) + 1))) (x + k) = old at hcol
                go_wp2_with fail
                go_roundg (i + 1 - (k + 1))
                case measure => omega
                case rel =>
                  refine ⟨k + 1, by omega, by omega, by go_num, ⟨?_⟩, ⟨?_⟩, ⟨?_⟩⟩
                  · have := HS1.out.col HE.out (x + k) (by rw [HPLEN.out k _ hk]; omega) (y + ((i : Int) + 1))
                    rwa [place_one f x k _ (by omega)] at this
                  · exact HFR.out.set_ (p := ⟨G, x + k, none⟩) hbG _
                  · have := HSZ.out; simpa [World.setCell] using this
              · have e3 : ¬ (k : Int) < (i : Int) + 1 := by omega
                obtain rfl : k = i + 1 := by omega
                obtain ⟨f1, hf1⟩ : ∃ f1, place f x (i + 1) (y + ((i : Int) + 1)) = f1 := ⟨_, rfl⟩
                have HF1 := Aside0.mk hf1
                rw [hf1] at HS1 hpl
                have hfl : f1.length = f.length := hpl
                have HFL := Aside0.mk hfl
                clear hf1 hpl hfl
                obtain ⟨A1, k1, e1'⟩ := Kd.R_slice HS1.out.row
                subst e1'
                have hz3 := blk_frozen HS1.out.fil.own 3
                have hsl := HSQ.out
                clear d2
                go_wp2_with (first | ((with_reducible refine gate_builtin (b := .append) (xs := #[.tmp 102, .tmp 107]) rfl ?_); at_builtin; refine Kd.R_append k57 (w0 := wr) base rfl (.tmp 102) (.tmp 107) 36 57 (.agg #[(.int .i64 0), (.int .i64 0), (.int .i64 0)]) 24 rfl Try.underlying36 info57 rfl (by decide) (by omega) (.slice A1 sq.length k1) sq (⟨x, y, (i : Int) + 1⟩ : S57) [.int .i64 x, .int .i64 y, .int .i64 ((i : Int) + 1)] (fun k => ¬ X1 k) (fun _ => False) rfl rfl ?aP (fun _ hk => hk.elim) ?aF ?aO ?aB ?aS ?aL ?_; (case aP => exact k57_mkM _ _ _ (⟨x, y, (i : Int) + 1⟩ : S57)); (case aB => exact Below.refl _ _); (case aF => exact (fun k hk hx => by have := HE.out.bd HS1.out.st k hx; omega)); (case aO => exact HS1.out.row); (case aS => exact HS1.out.size); (case aL => omega); intro v71 w12 ho hb hg hat; have n0_ := Aside0.mk (HS1.out.grown HE.out hg); have n1_ := Aside0.mk ho; clear ho hb hg hat d3 hz3; have d3 := blk_cell n0_.out.2.1.own 3; have hz3 := blk_frozen n0_.out.2.1.own 3; (simp only [List.getElem?_toArray, List.getElem?_cons_zero, List.getElem?_cons_succ] at d3); (obtain ⟨A2, k2, e2'⟩ := Kd.R_slice n1_.out); (subst e2')))
                have hq1 : (sq ++ [(⟨x, y, (i : Int) + 1⟩ : S57)]).length = sq.length + 1 := by simp
                have HQ1 := Aside0.mk hq1
                have HSN : Aside0 (FS I base F G H most (.func (.func g) #[] lb) f1 (sq ++ [(⟨x, y, (i : Int) + 1⟩ : S57)]) (.slice A2 (sq.length + 1) k2) s1 X1 (w12.setCell ⟨F, 3, none⟩ (.slice A2 (sq.length + 1) k2))) := ⟨by
                  have := FS.put3 HE.out n0_.out.1 n0_.out.2.1 n1_.out HS1.out.nF HS1.out.nG (Nat.le_trans HS1.out.size n0_.out.2.2.size)
                  rwa [hq1] at this⟩
                have HFRN : Aside0 (Fr base X w (w12.setCell ⟨F, 3, none⟩ (.slice A2 (sq.length + 1) k2))) := ⟨(HFR.out.trans n0_.out.2.2 (Nat.le_refl _) (fun j hj hx => by
                  rcases HSUB.out j hx with h | h
                  · exact h
                  · exact absurd hj (by have := HS.out.size; omega))).set_ (p := ⟨F, 3, none⟩) hbF _⟩
                have HSZN : Aside0 (w.heap.size ≤ (w12.setCell ⟨F, 3, none⟩ (.slice A2 (sq.length + 1) k2)).heap.size) := ⟨by simpa [World.setCell] using Nat.le_trans HSZ.out n0_.out.2.2.size⟩
                clear n0_ n1_ HFR HSZ HS1 hq1 d3 hz3
                generalize w12.setCell ⟨F, 3, none⟩ (.slice A2 (sq.length + 1) k2) = w13 at HSN HFRN HSZN ⊢
                have hSF := step_fits HFIT.out (i := i) (n := n) (by rw [HX.out, HRM.out]; exact hir) HLEFT.out
                rw [HX.out, HY.out, show ((i + 1 : Nat) : Int) = (i : Int) + 1 from rfl, HF1.out] at hSF
                have hch : ch i = fillP H most n f1 (sq ++ [(⟨x, y, (i : Int) + 1⟩ : S57)]) := by rw [← HCH.out, ← HF1.out]; rfl
                have hcap1 : ∀ c, c < f1.length → 0 ≤ ht f1 c := fun c hc => by
                  rw [HFL.out] at hc
                  rw [← HF1.out, ht_place _ _ _ _ (by omega)]
                  have := HCAP.out c hc
                  split <;> omega
                have hleft1 : left H f1 + 1 ≤ left H f := by
                  have h0 := left_place H f x (i + 1) (by omega) (by
                    have h9 := HRM.out
                    unfold room at h9
                    omega) (by omega) (by rw [HY.out]; omega)
                  rw [HY.out, show ((i + 1 : Nat) : Int) = (i : Int) + 1 from rfl, HF1.out] at h0
                  have : 1 ≤ (i + 1) * (i + 1) := Nat.mul_pos (by omega) (by omega)
                  omega
                have hQ1 : RunQ Q step s1 (fillP H most n f1 (sq ++ [(⟨x, y, (i : Int) + 1⟩ : S57)])) := by
                  obtain ⟨rest_, hrest_⟩ := flat_range_at ch i (rm - (i + 1))
                  rw [show i + 1 + (rm - (i + 1)) = rm by omega] at hrest_
                  have h_ := HQ.out
                  rw [HFP.out, hrest_] at h_
                  have h2_ := (RunQ.right h_ HFO.out).left
                  rwa [hch] at h2_
                refine (HIH.out f1 (sq ++ [(⟨x, y, (i : Int) + 1⟩ : S57)]) _ s1 X1 _ HSN.out hSF.1 hSF.2 (by rw [HFL.out]; exact hlen) hcap1 (by rw [HQ1.out]; omega) hQ1).mono ?_
                have HCI := Aside0.mk hch
                clear hSF hch hcap1 hleft1 hQ1
                intro e w' hp
                obtain ⟨he, X2, vS2, hfs2, hsub2, hfr2⟩ := hp
                subst he
                generalize hr : foldE step s1 (fillP H most n f1 (sq ++ [(⟨x, y, (i : Int) + 1⟩ : S57)])) = r at hfs2 ⊢
                obtain ⟨s2, b⟩ := r
                have HR : Aside0 (foldE step s1 (ch i) = (s2, b)) := ⟨by rw [HCI.out]; exact hr⟩
                have HS2 := Aside0.mk hfs2
                have HSUB2 : Aside0 (∀ k, X2 k → X k ∨ w.heap.size ≤ k) := ⟨fun k hk => by
                  rcases hsub2 k hk with h | h
                  · exact HSUB.out k h
                  · exact .inr (Nat.le_trans HSZN.out h)⟩
                have HFR2 : Aside0 (Fr base X w w') := ⟨HFRN.out.trans hfr2 (Nat.le_refl _) (fun j hj hx => by
                  rcases HSUB.out j hx with h | h
                  · exact h
                  · exact absurd hj (by have := HS.out.size; omega))⟩
                have HSZ2 : Aside0 (w.heap.size ≤ w'.heap.size) := ⟨Nat.le_trans HSZN.out hfr2.size⟩
                clear hr hfs2 hsub2 hfr2 HSN HFRN HSZN HCI HSUB
                obtain ⟨A4, k4, e4'⟩ := Kd.R_slice HS2.out.row
                rw [HQ1.out] at e4'
                subst e4'
                have hk4 : sq.length + 1 ≤ k4 := (Kd.R_reads' HS2.out.row).2.1
                have d3 := blk_cell HS2.out.fil.own 3
                have hz3 := blk_frozen HS2.out.fil.own 3
                simp only [List.getElem?_toArray, List.getElem?_cons_zero, List.getElem?_cons_succ] at d3
                have q1 := eq_true (show sq.length ≤ k4 by omega)
                have q2 := eq_true (show (0 : Int) ≤ (sq.length : Int) by omega)
                go_upto_region 17 with (fail)
                clear e3
                have hw1 : IntKind.i64.wrap (((sq.length + 1 : Nat) : Int) - 1) = (sq.length : Int) := (i64_w _).trans (by unfold wrap64; omega)
                have hw2 : IntKind.i64.wrap ((sq.length : Int) + 1 - 1) = (sq.length : Int) := (i64_w _).trans (by unfold wrap64; omega)
                have hw3 : IntKind.i64.wrap (sq.length : Int) = (sq.length : Int) := (i64_w _).trans (by unfold wrap64; omega)
                go_region
                clear hw1 hw2 hw3 q1 q2 d3 hz3
                have HS3 : Aside0 (FS I base F G H most (.func (.func g) #[] lb) f1 sq (.slice A4 sq.length k4) s2 X2 (w'.setCell ⟨F, 3, none⟩ (.slice A4 sq.length k4)).drew) := ⟨(HS2.out.cut HE.out).below HE.out ((Below.refl _ _).drew)⟩
                have HFR3 : Aside0 (Fr base X w (w'.setCell ⟨F, 3, none⟩ (.slice A4 sq.length k4)).drew) := ⟨(HFR2.out.set_ (p := ⟨F, 3, none⟩) hbF _).below ((Below.refl _ _).drew) HS.out.size⟩
                have HSZ3 : Aside0 (w.heap.size ≤ (w'.setCell ⟨F, 3, none⟩ (.slice A4 sq.length k4)).drew.heap.size) := ⟨by have := HSZ2.out; simpa [World.setCell] using this⟩
                clear HS2 HFR2 HSZ2
                generalize (w'.setCell ⟨F, 3, none⟩ (.slice A4 sq.length k4)).drew = w14 at HS3 HFR3 HSZ3 ⊢
                have e1 : (x : Int) + ((i : Int) + 1) ≤ (f.length : Int) := by omega
                have HPL2 : Aside0 (∀ k, k ≤ i + 1 → (place f1 x k y).length = f.length) := ⟨fun k hk => by rw [place_length f1 x k y (by rw [HFL.out]; omega)]; exact HFL.out⟩
                go_wp2_with fail
                go_loopg [8, 128] (i + 1) (fun kq v8 v128 wc => ∃ (k : Nat), k ≤ i + 1 ∧ i + 1 - k ≤ kq ∧ v128 = .int .i64 (k : Int) ∧ Aside0 (FS I base F G H most (.func (.func g) #[] lb) (place f1 x k y) sq (.slice A4 sq.length k4) s2 X2 wc) ∧ Aside0 (Fr base X w wc) ∧ Aside0 (w.heap.size ≤ wc.heap.size))
                case atStart => exact ⟨0, by omega, by omega, rfl, by rw [place_zero]; exact HS3, HFR3, HSZ3⟩
                case round =>
                  clear HS3 HFR3 HSZ3
                  obtain ⟨k, hk, hkq3, rfl, HS3, HFR3, HSZ3⟩ := hrel
                  have hpl := HPL2.out k hk
                  have d2 := blk_cell HS3.out.fil.own 2
                  rw [hpl] at d2
                  simp only [List.getElem?_toArray, List.getElem?_cons_zero, List.getElem?_cons_succ] at d2
                  by_cases hki : k < i + 1
                  · have e3 : (k : Int) < (i : Int) + 1 := by omega
                    have e4 : (x : Int) + (k : Int) < (f.length : Int) := by omega
                    have hcol := HS3.out.fil.col (x + k) (by rw [hpl]; omega)
                    have hfz := blk_frozen HS3.out.fil.cols (x + k)
                    clear hpl
                    generalize ht (place f1 x k y) (x + k) = old at hcol
                    go_wp2_with fail
                    go_roundg (i + 1 - (k + 1))
                    case measure => omega
                    case rel =>
                      refine ⟨k + 1, by omega, by omega, by go_num, ⟨?_⟩, ⟨?_⟩, ⟨?_⟩⟩
                      · have := HS3.out.col HE.out (x + k) (by rw [HPL2.out k hk]; omega) y
                        rwa [place_one f1 x k _ (by rw [HFL.out]; omega)] at this
                      · exact HFR3.out.set_ (p := ⟨G, x + k, none⟩) hbG _
                      · have := HSZ3.out; simpa [World.setCell] using this
                  · have e3 : ¬ (k : Int) < (i : Int) + 1 := by omega
                    obtain rfl : k = i + 1 := by omega
                    have hback : place f1 x (i + 1) y = f := by
                      rw [← HF1.out]
                      exact place_back f x (i + 1) _ y (by omega) (fun j hj => by
                        have h9 := HRM.out
                        unfold room at h9
                        rw [runAt_eq f x j (by omega), HY.out])
                    rw [hback] at HS3
                    clear hback d2 hpl
                    cases b with
                    | true =>
                      go_wp2_with fail
                      go_roundg (rm - (i + 1))
                      case measure => omega
                      case rel => exact ⟨i + 1, s2, X2, _, by omega, by omega, by go_num, ⟨by rw [flat_range_succ, foldE_on _ _ _ _ _ HFO.out]; exact HR.out⟩, HS3, HSUB2, HFR3, HSZ3⟩
                    | false =>
                      have hfin : foldE step s (fillP H most (n + 1) f sq) = (s2, false) := by
                        obtain ⟨rest, hrest⟩ := flat_range_at ch i (rm - (i + 1))
                        rw [show i + 1 + (rm - (i + 1)) = rm by omega] at hrest
                        rw [HFP.out, hrest, foldE_on _ _ _ _ _ HFO.out]
                        exact foldE_off _ _ _ _ _ HR.out
                      have HFIN := Aside0.mk hfin
                      clear hfin
                      go_wp2_with fail
                      go_ret
                      rw [HFIN.out]
                      exact ⟨rfl, X2, _, HS3.out, HSUB2.out, HFR3.out⟩
          · have hii : i = rm := by omega
            have HFQ : Aside0 (foldE step s (fillP H most (n + 1) f sq) = (s1, true)) := ⟨by rw [HFP.out, ← hii]; exact HFO.out⟩
            have hn3 : ¬ (x + (i + 1) ≤ f.length ∧ y + ((i + 1 : Nat) : Int) ≤ H ∧ ht f (x + i) = y) := fun h => hir (HRI.out.2 h)
            have HN3 := Aside0.mk hn3
            clear hn3 hii
            by_cases h1 : (x : Int) + ((i : Int) + 1) ≤ (f.length : Int)
            · by_cases h2 : y + ((i : Int) + 1) ≤ H
              · have h3 : (ht f (x + i) == y) = false := by
                  rw [beq_eq_false_iff_ne]
                  exact fun h => HN3.out ⟨by omega, by omega, h⟩
                have hcol : wr.cell? ⟨G, x + i, none⟩ = some (.int .i64 (ht f (x + i))) := HS1.out.fil.col (x + i) (by omega)
                generalize ht f (x + i) = yy at h3 hcol
                go_wp2_with fail
                go_ret
                rw [HFQ.out]
                exact ⟨rfl, X1, _, HS1.out, HSUB.out, HFR.out⟩
              · go_wp2_with fail
                go_ret
                rw [HFQ.out]
                exact ⟨rfl, X1, _, HS1.out, HSUB.out, HFR.out⟩
            · go_wp2_with fail
              go_ret
              rw [HFQ.out]
              exact ⟨rfl, X1, _, HS1.out, HSUB.out, HFR.out⟩

end Go.Proofs.Ytfmhcgjmgaefcab.P

namespace Go.Proofs.Ytfmhcgjmgaefcab.P
open Go.RowKit Go.Proofs.YtfmhcgjmgaefcabW.PrintWords Go.Proofs.YtfmhcgjmgaefcabW.PrintLast Go.Proofs.YtfmhcgjmgaefcabW.PrintMore
attribute [local go_sem] max2_int min2_int max_two min_two max_three min_three max_four min_four
set_option linter.unusedVariables false
set_option linter.unusedSimpArgs false

/-! ### impl_fills: function 55 -/
open Go.Proofs.Ytfmhcgjmgaefcab.T Go.Proofs.Ytfmhcgjmgaefcab.Gr Go.Proofs.Ytfmhcgjmgaefcab.Aid
theorem madeCells_int (n : Nat) : madeCells (Value.int .i64 0).cells (n * 1) = ((List.replicate n (0 : Int)).map (Value.int .i64)).toArray := by
  unfold madeCells
  rw [Nat.mul_one]
  apply Array.ext
  · simp
  · intro i h1 h2
    have e : (Value.int .i64 0).cells = #[Value.int .i64 0] := rfl
    simp [e, Nat.mod_one]
theorem row_of_block {w : World} {g base : Nat} {ok : Nat → Prop} {l : List Int} (h : w.heap[g]? = some (.cells (l.map (Value.int .i64)).toArray 3 (0, 0))) (hb : base ≤ g) (ho : ok g) (hl : l.length ≤ 1000000) : Kd.R (Kd.int .i64) 3 w base ok (.slice (some ⟨g, 0, none⟩) l.length l.length) l := by
  have hs : (Kd.int .i64).sz = 1 := rfl
  refine ⟨fun k hk => ?_, l.map (Value.int .i64), ⟨by rw [hs]; simp, .inr ⟨g, l.length, _, rfl, hb, h, Nat.le_refl _, by simp only [maxLen]; omega, by rw [hs]; simp, by rw [hs]; simp; exact List.take_of_length_le (by simp)⟩⟩, by rw [hs]; simp, fun j p hj => ?_⟩
  · have : g = k := by simpa [Value.ownBlock] using hk
    subst this; exact ho
  · have hjl := (List.getElem?_eq_some_iff.1 hj).1
    have hp := (List.getElem?_eq_some_iff.1 hj).2
    rw [hs, Nat.mul_one]
    show (List.take 1 (List.drop j (l.map (Value.int .i64)))) = [.int .i64 p]
    rw [List.drop_eq_getElem_cons (by simpa using hjl)]
    simp [hp]
theorem ht_rep (n c : Nat) : ht (List.replicate n 0) c = 0 := by
  unfold ht
  rw [List.getD_eq_getElem?_getD, List.getElem?_replicate]
  split <;> rfl
theorem left_rep (n : Nat) (H : Int) (h0 : 0 ≤ H) : left H (List.replicate n 0) = n * H.toNat := by rw [left_replicate]; simp
theorem fits_rep (n : Nat) (H : Int) (hn : 0 < n) (h0 : 0 ≤ H) : Fits (List.replicate n 0) H := ⟨fun e => by simp at e; omega, fun c _ => by rw [ht_rep]; exact h0⟩
set_option maxHeartbeats 2000000 in
theorem impl_fills {σ : Type} {g : Nat} {lb : Array Value} {Q : σ → List Sq → Prop} {step : σ → List Sq → σ × Bool} {I : σ → World → (Nat → Prop) → Prop} (E : Each g lb Q step I) (W : Nat) (H most : Int) (hW : 1 ≤ W ∧ W ≤ 100) (hH : 1 ≤ H ∧ H ≤ 100)
    (n : Nat) (hn : W * H.toNat < n) (s : σ) (X : Nat → Prop) (w : World) (hI : I s w X) (hQ : RunQ Q step s (fillP H most n (List.replicate W 0) [])) :
    Calls Try.prog 55 #[.int .i64 (W : Int), .int .i64 H, .int .i64 most, .func (.func g) #[] lb] w fun e w' => (∃ v, e = .returned v) ∧ ∃ X', I (foldE step s (fillP H most n (List.replicate W 0) [])).1 w' X' ∧ (∀ k, X' k → X k ∨ w.heap.size ≤ k) ∧ Fr w.heap.size X w w' := by
  obtain ⟨i0, hi0, hz0, hz1, hz2⟩ := info_parts info3
  have hmk : ∀ W' : World, (Instr.makeSlice 25 (.int .i64 (W : Int)) (.int .i64 (W : Int))).run Try.prog W' = .ok (.slice (some ⟨W'.heap.size, 0, none⟩) W W) (W'.alloc (.cells ((List.replicate W (0 : Int)).map (Value.int .i64)).toArray 3)) := fun W' => by
    have := run_make W' 25 3 i0 _ Try.underlying25 hi0 hz0 .i64 .i64 (W : Int) (W : Int) (by omega) (Int.le_refl _) (by rw [hz2]; omega) (by omega)
    rw [hz1, Int.toNat_natCast, madeCells_int] at this
    exact this
  have HI := Aside0.mk hI
  have HE := Aside0.mk E
  have HQ := Aside0.mk hQ
  have HN := Aside0.mk hn
  clear hi0 hz0 hz1 hz2 hI E hQ hn
  generalize hf : List.replicate W (0 : Int) = f at hmk HQ
  have hlen : f.length = W := by rw [← hf]; simp
  have HF := Aside0.mk hf
  clear hf
  subst hlen
  have hu69 := Try.underlying80
  go_enter Try.func55, Try.ntmps55
  go_wp2_with fail
  have HWB : Aside0 (Below w.heap.size w ((w.alloc (.cells (f.map (Value.int .i64)).toArray 3)).alloc (.cells #[.int .i64 (f.length : Int), .int .i64 H, .slice (some ⟨w.heap.size, 0, none⟩) f.length f.length, .slice none 0 0, .int .i64 most, .func (.func g) #[] lb] 80))) := ⟨((Below.refl _ _).alloc (Nat.le_refl _) _).alloc (by simp) _⟩
  have HFS : Aside0 (FS I w.heap.size (w.heap.size + 1) w.heap.size H most (.func (.func g) #[] lb) f [] (.slice none 0 0) s X ((w.alloc (.cells (f.map (Value.int .i64)).toArray 3)).alloc (.cells #[.int .i64 (f.length : Int), .int .i64 H, .slice (some ⟨w.heap.size, 0, none⟩) f.length f.length, .slice none 0 0, .int .i64 most, .func (.func g) #[] lb] 80))) := ⟨{
    st := HE.out.mv HI.out (fun k hk => HWB.out.block k (HE.out.bd HI.out k hk))
    fil := ⟨by
      have := heap_alloc_new (w.alloc (.cells (f.map (Value.int .i64)).toArray 3)) (.cells #[.int .i64 (f.length : Int), .int .i64 H, .slice (some ⟨w.heap.size, 0, none⟩) f.length f.length, .slice none 0 0, .int .i64 most, .func (.func g) #[] lb] 80)
      simpa using this, blk_alloc (heap_alloc_new w _) _⟩
    row := Kd.R_nil _ _ _ _ _
    nF := fun hk => by have := HE.out.bd HI.out _ hk; omega
    nG := fun hk => by have := HE.out.bd HI.out _ hk; omega
    size := HWB.out.size }⟩
  generalize ((w.alloc (.cells (f.map (Value.int .i64)).toArray 3)).alloc (.cells #[.int .i64 (f.length : Int), .int .i64 H, .slice (some ⟨w.heap.size, 0, none⟩) f.length f.length, .slice none 0 0, .int .i64 most, .func (.func g) #[] lb] 80)) = w1 at HWB HFS ⊢
  refine (filler_fill HE.out w.heap.size (w.heap.size + 1) w.heap.size H most (by omega) (by omega) (Nat.le_refl _) n f [] _ s X w1 HFS.out (by rw [← HF.out]; exact fits_rep _ _ (by omega) (by omega)) (by rw [← HF.out, left_rep _ _ (by omega)]; exact HN.out) (by omega) (fun c _ => by rw [← HF.out, ht_rep]; omega) ?_ HQ.out).mono ?_
  · rw [← HF.out, left_rep _ _ (by omega)]
    have : f.length * H.toNat ≤ 100 * 100 := Nat.mul_le_mul hW.2 (by omega)
    simp only [List.length_nil]
    omega
  · intro e w' hp
    obtain ⟨he, X', vS', h1, h2, h3⟩ := hp
    subst he
    have H1 := Aside0.mk h1.st
    have H2 : Aside0 (∀ k, X' k → X k ∨ w.heap.size ≤ k) := ⟨fun k hk => by
      rcases h2 k hk with h | h
      · exact .inl h
      · exact .inr (Nat.le_trans HWB.out.size h)⟩
    have H3 : Aside0 (Fr w.heap.size X w w') := ⟨(Fr.of_below HWB.out (Nat.le_refl _)).trans h3 (Nat.le_refl _) (fun _ _ hx => hx)⟩
    clear h1 h2 h3
    go_wp2_with fail
    go_end0
    exact ⟨⟨_, rfl⟩, X', H1.out, H2.out, H3.out⟩

end Go.Proofs.Ytfmhcgjmgaefcab.P

namespace Go.Proofs.Ytfmhcgjmgaefcab.P
open Go.RowKit Go.Proofs.YtfmhcgjmgaefcabW.PrintWords Go.Proofs.YtfmhcgjmgaefcabW.PrintLast Go.Proofs.YtfmhcgjmgaefcabW.PrintMore
attribute [local go_sem] max2_int min2_int max_two min_two max_three min_three max_four min_four
set_option linter.unusedVariables false
set_option linter.unusedSimpArgs false

/-! ### impl_fewest: function 34 -/
open Go.Proofs.Ytfmhcgjmgaefcab.T Go.Proofs.Ytfmhcgjmgaefcab.Aid
/-- 'found' in its box -/
def FoI (B : Nat) (s : Bool) (W : World) (X : Nat → Prop) : Prop := W.heap[B]? = some (.cells #[.bool s] 4 (0, 0)) ∧ ∀ k, X k ↔ k = B
set_option maxHeartbeats 1000000 in
theorem few_each (B : Nat) : Each 58 #[.pointer (some ⟨B, 0, none⟩)] (fun _ _ => True) (fun _ _ => (true, false)) (FoI B) where
  bd := fun {s W X} h k hk => by
    rw [(h.2 k).1 hk]
    exact blk_lt h.1
  mv := fun {s W W' X} h hm => ⟨(hm B ((h.2 B).2 rfl)).trans h.1, h.2⟩
  eg := enters_of Try.func58 (by kernel_rfl) rfl
  call := fun s W X A c sq hI hC hc hq => by
    obtain ⟨h1, h4⟩ := hI
    have c1 : W.cell? ⟨B, 0, none⟩ = some (.bool s) := (blk_cell h1 0).trans rfl
    have c3 := blk_frozen h1 0
    have HX : Aside0 (FoI B true (W.setCell ⟨B, 0, none⟩ (.bool true)) X ∧ Fr W.heap.size X W (W.setCell ⟨B, 0, none⟩ (.bool true))) := ⟨⟨blk_put h1 0 _ rfl, h4⟩, rfl, rfl, rfl, by simp [World.setCell], fun k _ hk => Below.heap_setCell W _ _ k (fun e => hk ((h4 k).2 e))⟩
    clear h1 h4 hC hc
    go_enter Try.func58, Try.ntmps58
    go_wp2_with fail
    go_ret
    exact ⟨rfl, X, HX.out.1, fun k hk => .inl hk, HX.out.2⟩
theorem foldE_found {L : List (List Sq)} : foldE (fun (_ : Bool) (_ : List Sq) => (true, false)) false L = if L = [] then (false, true) else (true, false) := by
  cases L with
  | nil => rfl
  | cons t L => simp [foldE]
def impl_fewest.f (a0 a1 : Int) : Option Int := if 1 ≤ a0 ∧ a0 ≤ 13 ∧ 1 ≤ a1 ∧ a1 ≤ 13 then some (fewM a0.toNat a1 : Int) else none
set_option maxHeartbeats 2000000 in
theorem impl_fewest.calls (a0 : Int) (a1 : Int) (r : Int) (w : World) (h : impl_fewest.f a0 a1 = some r) :
    Calls Try.prog 34 #[.int .i64 a0, .int .i64 a1] w fun e w' => e = .returned (.int .i64 r) ∧ Below w.heap.size w w' := by
  unfold impl_fewest.f at h
  by_cases hr : 1 ≤ a0 ∧ a0 ≤ 13 ∧ 1 ≤ a1 ∧ a1 ≤ 13
  · rw [if_pos hr] at h
    obtain ⟨W, rfl⟩ : ∃ W : Nat, a0 = W := ⟨a0.toNat, by omega⟩
    simp only [Int.toNat_natCast] at h
    have hfp := few_pos W a1 (by omega) (by omega)
    have HB1 := Aside0.mk (few_below W a1 (by omega) (by omega))
    have HB2 := Aside0.mk (few_at W a1 (by omega) (by omega))
    have hpr : (W : Int) * a1 ≤ 13 * 13 := Int.mul_le_mul (by omega) (by omega) (by omega) (by omega)
    generalize fewM W a1 = M at h hfp HB1 HB2
    obtain rfl := Option.some.inj h
    have hM : 1 ≤ M ∧ M ≤ 169 := by omega
    clear h hfp hpr
    go_enter Try.func34, Try.ntmps34
    go_wp2_with fail
    go_loopg [5] M (fun kq v5 wc => ∃ m : Nat, 1 ≤ m ∧ m ≤ M ∧ M - m ≤ kq ∧ v5 = .int .i64 (m : Int) ∧ Aside0 (Below w.heap.size w wc))
    case atStart => exact ⟨1, by omega, by omega, by omega, rfl, ⟨Below.refl _ _⟩⟩
    case round =>
      obtain ⟨m, hm1, hm2, hkq, rfl, HB⟩ := hrel
      have HI : Aside0 (FoI wr.heap.size false (wr.alloc (.cells #[.bool false] 4)) (fun k => k = wr.heap.size)) := ⟨heap_alloc_new wr _, fun k => Iff.rfl⟩
      have HZ : Aside0 ((wr.alloc (.cells #[.bool false] 4)).heap.size = wr.heap.size + 1) := ⟨by simp⟩
      have HBA : Aside0 (Below w.heap.size w (wr.alloc (.cells #[.bool false] 4))) := ⟨HB.out.alloc HB.out.size _⟩
      go_wp2_with fail
      generalize (wr.alloc (.cells #[.bool false] 4)) = w1 at HI HZ HBA ⊢
      refine (impl_fills (few_each wr.heap.size) W a1 (m : Int) (by omega) (by omega) (W * a1.toNat + 1) (by omega) false _ w1 HI.out (RunQ.triv (fun _ _ => trivial) _ _)).mono ?_
      rintro e w' ⟨⟨v, rfl⟩, X', hI', hsub, hfr⟩
      rw [foldE_found] at hI'
      have H3 : Aside0 (Below w.heap.size w w') := ⟨⟨hfr.os.trans HBA.out.os, hfr.tape.trans HBA.out.tape, hfr.output.trans HBA.out.output, Nat.le_trans HBA.out.size hfr.size, fun k hk => (hfr.block k (by have := HBA.out.size; omega) (fun h => by have := HB.out.size; omega)).trans (HBA.out.block k hk)⟩⟩
      by_cases hmm : m < M
      · rw [HB1.out m hmm, if_pos rfl] at hI'
        have c1 : w'.cell? ⟨wr.heap.size, 0, none⟩ = some (.bool false) := (blk_cell hI'.1 0).trans rfl
        clear hI' hsub hfr
        go_wp2_with fail
        go_roundg (M - (m + 1))
        case measure => omega
        case rel => exact ⟨m + 1, by omega, by omega, by omega, by go_num, H3⟩
      · obtain rfl : m = M := by omega
        rw [if_neg HB2.out] at hI'
        have c1 : w'.cell? ⟨wr.heap.size, 0, none⟩ = some (.bool true) := (blk_cell hI'.1 0).trans rfl
        clear hI' hsub hfr
        go_wp2_with fail
        go_ret
        exact ⟨rfl, H3.out⟩
  · rw [if_neg hr] at h; cases h

end Go.Proofs.Ytfmhcgjmgaefcab.P

namespace Go.Proofs.Ytfmhcgjmgaefcab.P
open Go.RowKit Go.Proofs.YtfmhcgjmgaefcabW.PrintWords Go.Proofs.YtfmhcgjmgaefcabW.PrintLast Go.Proofs.YtfmhcgjmgaefcabW.PrintMore
attribute [local go_sem] max2_int min2_int max_two min_two max_three min_three max_four min_four
set_option linter.unusedVariables false
set_option linter.unusedSimpArgs false

/-! ### impl_FewestSquares: function 44 -/
def impl_FewestSquares.f (a0 : Int) (a1 : Int) : Option (Int × Bool) := (impl_isFew.f a0 a1).bind fun t101 => (if t101 = true then ((impl_fewest.f a0 a1).bind fun t102 => (some (t102, true))) else (some (0, false)))
set_option maxHeartbeats 8000000 in
set_option maxRecDepth 100000 in
theorem impl_FewestSquares.calls (a0 : Int) (a1 : Int) (r1 : Int) (r2 : Bool) (w : World) (h : impl_FewestSquares.f a0 a1 = some (r1, r2)) :
    Calls Try.prog 44 #[.int .i64 a0, .int .i64 a1] w fun e w' => e = .returned (.tuple #[.int .i64 r1, .bool r2]) ∧ Below w.heap.size w w' := by
  have HB := Aside0.mk (Below.refl w.heap.size w)
  have H : ((impl_isFew.f a0 a1).bind fun t101 => (if t101 = true then ((impl_fewest.f a0 a1).bind fun t102 => (some (t102, true))) else (some (0, false)))) = some (r1, r2) := h
  clear h
  replace H := Option.bind_eq_some_iff.mp H
  obtain ⟨t101, A30, H⟩ := H
  replace H : (if t101 = true then ((impl_fewest.f a0 a1).bind fun t102 => (some (t102, true))) else (some (0, false))) = some (r1, r2) := H
  have A3 := Aside0.mk A30
  clear A30
  by_cases c4 : t101 = true
  · subst c4
    have H1 : ((impl_fewest.f a0 a1).bind fun t102 => (some (t102, true))) = some (r1, r2) := by rw [if_pos rfl] at H; exact H
    clear H
    have H := H1
    clear H1
    replace H := Option.bind_eq_some_iff.mp H
    obtain ⟨t102, A50, H⟩ := H
    replace H : (some (t102, true)) = some (r1, r2) := H
    have A5 := Aside0.mk A50
    clear A50
    simp only [Option.some.injEq, Prod.mk.injEq] at H
    obtain ⟨rfl, rfl⟩ := H
    go_enter Try.func44, Try.ntmps44
    go_wp2_with (first | ((with_reducible refine gate_callee (f := 30) rfl ?_); refine goesL_ (some 8) rfl rfl Try.func30 (by kernel_rfl) rfl #[.int .i64 a0, .int .i64 a1] rfl (by (try simp only [List.map_toArray, List.map_cons, List.map_nil]); first | done | rfl | (simp only [List.length_drop, List.length_take]; rfl)) ?_; (with_reducible refine (impl_isFew.calls a0 a1 true _ A3.out).mono ?_); rintro e w' ⟨rfl, ⟨nd, rfl⟩⟩; refine ⟨_, rfl, ?_⟩) | ((with_reducible refine gate_callee (f := 34) rfl ?_); refine goesL_ (some 12) rfl rfl Try.func34 (by kernel_rfl) rfl #[.int .i64 a0, .int .i64 a1] rfl (by (try simp only [List.map_toArray, List.map_cons, List.map_nil]); first | done | rfl | (simp only [List.length_drop, List.length_take]; rfl)) ?_; (with_reducible refine (impl_fewest.calls a0 a1 t102 _ A5.out).mono ?_); rintro e w6 ⟨rfl, hb⟩; refine ⟨_, rfl, ?_⟩; have n0_ := Aside0.mk (below_step (by repeat (first | (with_reducible first | exact HB.out | apply below_alloc | apply pw_below_drewN | apply below_drew1) | exact HB.out)) hb); clear HB; have HB := n0_; clear n0_; (try clear hb); (try clear hb2); (try clear hk); (try clear hi)))
    go_ret2
    exact ⟨by first | rfl | (simp [errW_none, errW_some] <;> rfl) | (simp [*, errW_none, errW_some] <;> rfl), by repeat (first | (with_reducible first | exact HB.out | apply below_alloc | apply pw_below_drewN | apply below_drew1) | exact HB.out)⟩
  · replace c4 := Bool.eq_false_iff.mpr c4
    subst c4
    have H1 : (some (0, false)) = some (r1, r2) := by rw [if_neg (show ¬ (false = true) by decide)] at H; exact H
    clear H
    have H := H1
    clear H1
    simp only [Option.some.injEq, Prod.mk.injEq] at H
    obtain ⟨rfl, rfl⟩ := H
    go_enter Try.func44, Try.ntmps44
    go_wp2_with (first | ((with_reducible refine gate_callee (f := 30) rfl ?_); refine goesL_ (some 8) rfl rfl Try.func30 (by kernel_rfl) rfl #[.int .i64 a0, .int .i64 a1] rfl (by (try simp only [List.map_toArray, List.map_cons, List.map_nil]); first | done | rfl | (simp only [List.length_drop, List.length_take]; rfl)) ?_; (with_reducible refine (impl_isFew.calls a0 a1 false _ A3.out).mono ?_); rintro e w' ⟨rfl, ⟨nd, rfl⟩⟩; refine ⟨_, rfl, ?_⟩))
    go_ret2
    exact ⟨by first | rfl | (simp [errW_none, errW_some] <;> rfl) | (simp [*, errW_none, errW_some] <;> rfl), by repeat (first | (with_reducible first | exact HB.out | apply below_alloc | apply pw_below_drewN | apply below_drew1) | exact HB.out)⟩

end Go.Proofs.Ytfmhcgjmgaefcab.P

namespace Go.Proofs.Ytfmhcgjmgaefcab.P
open Go.RowKit Go.Proofs.YtfmhcgjmgaefcabW.PrintWords Go.Proofs.YtfmhcgjmgaefcabW.PrintLast Go.Proofs.YtfmhcgjmgaefcabW.PrintMore
attribute [local go_sem] max2_int min2_int max_two min_two max_three min_three max_four min_four
set_option linter.unusedVariables false
set_option linter.unusedSimpArgs false

/-! ### impl_isRatio: function 85 -/
def impl_isRatio.f (a0 : Int) (a1 : Int) : Option (Bool) := (impl_within.f a0 1 1000).bind fun t101 => (if t101 = true then ((impl_within.f a1 1 1000).bind fun t102 => (some t102)) else (some false))
set_option maxHeartbeats 8000000 in
set_option maxRecDepth 100000 in
theorem impl_isRatio.calls (a0 : Int) (a1 : Int) (r : Bool) (w : World) (h : impl_isRatio.f a0 a1 = some r) :
    Calls Try.prog 85 #[.int .i64 a0, .int .i64 a1] w fun e w' => e = .returned (.bool r) ∧ Drawn0 w w' := by
  have H : ((impl_within.f a0 1 1000).bind fun t101 => (if t101 = true then ((impl_within.f a1 1 1000).bind fun t102 => (some t102)) else (some false))) = some r := h
  clear h
  replace H := Option.bind_eq_some_iff.mp H
  obtain ⟨t101, A30, H⟩ := H
  replace H : (if t101 = true then ((impl_within.f a1 1 1000).bind fun t102 => (some t102)) else (some false)) = some r := H
  have A3 := Aside0.mk A30
  clear A30
  by_cases c4 : t101 = true
  · subst c4
    have H1 : ((impl_within.f a1 1 1000).bind fun t102 => (some t102)) = some r := by rw [if_pos rfl] at H; exact H
    clear H
    have H := H1
    clear H1
    replace H := Option.bind_eq_some_iff.mp H
    obtain ⟨t102, A50, H⟩ := H
    replace H : (some t102) = some r := H
    have A5 := Aside0.mk A50
    clear A50
    obtain rfl := Option.some.inj H
    go_enter Try.func85, Try.ntmps85
    go_wp2_with (first | ((with_reducible refine gate_callee (f := 33) rfl ?_); refine goesL_ (some 6) rfl rfl Try.func33 (by kernel_rfl) rfl #[.int .i64 a0, .int .i64 1, .int .i64 1000] rfl (by (try simp only [List.map_toArray, List.map_cons, List.map_nil]); first | done | rfl | (simp only [List.length_drop, List.length_take]; rfl)) ?_; (with_reducible refine (impl_within.calls a0 1 1000 true _ A3.out).mono ?_); rintro e w' ⟨rfl, ⟨nd, rfl⟩⟩; refine ⟨_, rfl, ?_⟩) | (go_at_call 33; (with_reducible refine (impl_within.calls a1 1 1000 t102 _ A5.out).mono ?_); rintro e w' ⟨rfl, ⟨nd, rfl⟩⟩))
    go_ret
    exact ⟨by first | rfl | (simp; done) | (simp [*]; done), by repeat (first | exact Drawn0.refl _ | apply Drawn0.step)⟩
  · replace c4 := Bool.eq_false_iff.mpr c4
    subst c4
    have H1 : (some false) = some r := by rw [if_neg (show ¬ (false = true) by decide)] at H; exact H
    clear H
    have H := H1
    clear H1
    obtain rfl := Option.some.inj H
    go_enter Try.func85, Try.ntmps85
    go_wp2_with (first | ((with_reducible refine gate_callee (f := 33) rfl ?_); refine goesL_ (some 6) rfl rfl Try.func33 (by kernel_rfl) rfl #[.int .i64 a0, .int .i64 1, .int .i64 1000] rfl (by (try simp only [List.map_toArray, List.map_cons, List.map_nil]); first | done | rfl | (simp only [List.length_drop, List.length_take]; rfl)) ?_; (with_reducible refine (impl_within.calls a0 1 1000 false _ A3.out).mono ?_); rintro e w' ⟨rfl, ⟨nd, rfl⟩⟩; refine ⟨_, rfl, ?_⟩))
    go_ret
    exact ⟨by first | rfl | (simp; done) | (simp [*]; done), by repeat (first | exact Drawn0.refl _ | apply Drawn0.step)⟩

end Go.Proofs.Ytfmhcgjmgaefcab.P

namespace Go.Proofs.Ytfmhcgjmgaefcab.P
open Go.RowKit Go.Proofs.YtfmhcgjmgaefcabW.PrintWords Go.Proofs.YtfmhcgjmgaefcabW.PrintLast Go.Proofs.YtfmhcgjmgaefcabW.PrintMore
attribute [local go_sem] max2_int min2_int max_two min_two max_three min_three max_four min_four
set_option linter.unusedVariables false
set_option linter.unusedSimpArgs false

/-! ### impl_quotients: function 86 -/
def impl_quotients.l0 : Nat → Int → Int → List Int → Option (List Int)
  | 0, _, _, _ => none
  | k + 1, x5, x6, x7 => if x6 > 0 then (if x6 = 0 then (none) else (if x7.length < 17592186044416 then (impl_quotients.l0 k x6 (Int.tmod x5 x6) (x7 ++ [wrap64 (Int.tdiv x5 x6)])) else (none))) else (some x7)
def impl_quotients.f (k : Nat) (a0 : Int) (a1 : Int) : Option (List Int) := impl_quotients.l0 k (mx a0 a1) (mn a0 a1) (([] : List Int))
theorem impl_quotients.mono_l : ∀ k, (∀ y0 y1 y2, LeO (impl_quotients.l0 k y0 y1 y2) (impl_quotients.l0 (k + 1) y0 y1 y2))
  | 0 => fun _ _ _ r h => by simp [impl_quotients.l0] at h
  | k + 1 => by
    have ih0 := impl_quotients.mono_l k
    · intro y0 y1 y2
      unfold impl_quotients.l0
      repeat' first
      | (with_reducible exact ih0 _ _ _)
      | (with_reducible exact LeO.refl _)
      | (with_reducible exact LeO.none _)
      | (with_reducible refine LeO.ite ?_ ?_)
      | (with_reducible refine LeO.bind ?_ (fun _ => ?_))
      | exact ih0 _ _ _
      | exact LeO.none _
      | refine LeO.ite ?_ ?_
      | refine LeO.bind ?_ (fun _ => ?_)
theorem impl_quotients.mono : ∀ a0 a1 k, LeO (impl_quotients.f k a0 a1) (impl_quotients.f (k + 1) a0 a1) := by
  intro a0 a1 k
  have ih0 := impl_quotients.mono_l k
  unfold impl_quotients.f
  repeat' first
      | (with_reducible exact ih0 _ _ _)
      | (with_reducible exact LeO.refl _)
      | (with_reducible exact LeO.none _)
      | (with_reducible refine LeO.ite ?_ ?_)
      | (with_reducible refine LeO.bind ?_ (fun _ => ?_))
      | exact ih0 _ _ _
      | exact LeO.none _
      | refine LeO.ite ?_ ?_
      | refine LeO.bind ?_ (fun _ => ?_)
set_option maxHeartbeats 8000000 in
set_option maxRecDepth 100000 in
theorem impl_quotients.calls (k : Nat) (a0 : Int) (a1 : Int) (r : List Int) (w : World) (h : impl_quotients.f k a0 a1 = some r) :
    Calls Try.prog 86 #[.int .i64 a0, .int .i64 a1] w fun e w' => ∃ v0_ : Value, e = .returned (v0_) ∧ Kd.R (Kd.int .i64) 3 w' w.heap.size (fun _ => True) v0_ r ∧ Below w.heap.size w w' := by
  have HB := Aside0.mk (Below.refl w.heap.size w)
  have H : (impl_quotients.l0 k (mx a0 a1) (mn a0 a1) (([] : List Int))) = some r := h
  clear h
  obtain ⟨ji3, hji3⟩ : ∃ j_ : Int, (mx a0 a1) = j_ := ⟨_, rfl⟩
  replace H : (impl_quotients.l0 k ji3 (mn a0 a1) (([] : List Int))) = some r := by first | (rw [hji3] at H; exact H) | (simp only [hji3] at H ⊢; exact H)
  have hji3_ : (if a0 < a1 then a1 else a0) = ji3 := hji3
  obtain ⟨ji4, hji4⟩ : ∃ j_ : Int, (mn a0 a1) = j_ := ⟨_, rfl⟩
  replace H : (impl_quotients.l0 k ji3 ji4 (([] : List Int))) = some r := by first | (rw [hji4] at H; exact H) | (simp only [hji4] at H ⊢; exact H)
  have hji4_ : (if a1 < a0 then a1 else a0) = ji4 := hji4
  obtain ⟨y101, hy101⟩ : ∃ y_ : List Int, y_ = (([] : List Int)) := ⟨_, rfl⟩
  replace H : (impl_quotients.l0 k ji3 ji4 y101) = some r := by first | (rw [hy101]; with_reducible exact H) | (have H2_ := (Option.bind_some _ _).symm.trans H; rw [hy101]; with_reducible exact H2_) | (have H2_ := (Option.bind_some _ _).symm.trans H; with_reducible exact H2_) | with_reducible exact H | (rw [hy101]; exact H) | exact H
  have Ny101 := Aside0.mk hy101
  clear hy101
  have H' := Aside0.mk H
  clear H
  go_enter Try.func86, Try.ntmps86
  go_wp2_with (first | ((with_reducible refine gate_dst (N := 14) rfl ?_); refine Kd.R_lit (Kd.int .i64) _ 3 ?hg (N := 14) ?hd (xs := ([] : List Int)) (inner := []) (ok := fun _ => True) (okp := fun _ => True) ?hr ?hp (fun _ hk => hk) trivial (Below.refl _ _) (Nat.le_refl _) (by simp) ?_; (case hd => rfl); (case hg => rfl); (case hr => first | (go_simp; done) | (go_simp; rfl)); (case hp => exact (Reps.none _ _)); intro v102 w5 ho6 hb hg_ hnew_; clear hg_ hnew_; (first | rw [← Ny101.out] at ho6 | (simp only [Int.reduceToNat] at ho6; rw [← Ny101.out] at ho6)); have n0_ := Aside0.mk (Kd.R_lower ho6 (below_size (by repeat (first | (with_reducible first | exact HB.out | apply below_alloc | apply pw_below_drewN | apply below_drew1) | exact HB.out)))); have n1_ := Aside0.mk (below_step (by repeat (first | (with_reducible first | exact HB.out | apply below_alloc | apply pw_below_drewN | apply below_drew1) | exact HB.out)) hb); clear HB; have HO103 := n0_; have HB := n1_; clear n0_ n1_; clear hb ho6))
  repeat (go_quiet (first | ((with_reducible refine gate_dst (N := 14) rfl ?_); refine Kd.R_lit (Kd.int .i64) _ 3 ?hg (N := 14) ?hd (xs := ([] : List Int)) (inner := []) (ok := fun _ => True) (okp := fun _ => True) ?hr ?hp (fun _ hk => hk) trivial (Below.refl _ _) (Nat.le_refl _) (by simp) ?_; (case hd => rfl); (case hg => rfl); (case hr => first | (go_simp; done) | (go_simp; rfl)); (case hp => exact (Reps.none _ _)); intro v102 w5 ho6 hb hg_ hnew_; clear hg_ hnew_; (first | rw [← Ny101.out] at ho6 | (simp only [Int.reduceToNat] at ho6; rw [← Ny101.out] at ho6)); have n0_ := Aside0.mk (Kd.R_lower ho6 (below_size (by repeat (first | (with_reducible first | exact HB.out | apply below_alloc | apply pw_below_drewN | apply below_drew1) | exact HB.out)))); have n1_ := Aside0.mk (below_step (by repeat (first | (with_reducible first | exact HB.out | apply below_alloc | apply pw_below_drewN | apply below_drew1) | exact HB.out)) hb); clear HB; have HO103 := n0_; have HB := n1_; clear n0_ n1_; clear hb ho6)); try go_wp2_with (first | ((with_reducible refine gate_dst (N := 14) rfl ?_); refine Kd.R_lit (Kd.int .i64) _ 3 ?hg (N := 14) ?hd (xs := ([] : List Int)) (inner := []) (ok := fun _ => True) (okp := fun _ => True) ?hr ?hp (fun _ hk => hk) trivial (Below.refl _ _) (Nat.le_refl _) (by simp) ?_; (case hd => rfl); (case hg => rfl); (case hr => first | (go_simp; done) | (go_simp; rfl)); (case hp => exact (Reps.none _ _)); intro v102 w5 ho6 hb hg_ hnew_; clear hg_ hnew_; (first | rw [← Ny101.out] at ho6 | (simp only [Int.reduceToNat] at ho6; rw [← Ny101.out] at ho6)); have n0_ := Aside0.mk (Kd.R_lower ho6 (below_size (by repeat (first | (with_reducible first | exact HB.out | apply below_alloc | apply pw_below_drewN | apply below_drew1) | exact HB.out)))); have n1_ := Aside0.mk (below_step (by repeat (first | (with_reducible first | exact HB.out | apply below_alloc | apply pw_below_drewN | apply below_drew1) | exact HB.out)) hb); clear HB; have HO103 := n0_; have HB := n1_; clear n0_ n1_; clear hb ho6)))
  go_loopg [5, 6, 7] k (fun kq v5 v6 v7 w' => ∃ (x5_1 : Int) (x6_1 : Int) (x7_1 : List Int), v5 = .int .i64 x5_1 ∧ v6 = .int .i64 x6_1 ∧ Aside0 (impl_quotients.l0 kq x5_1 x6_1 x7_1 = some r) ∧ Aside0 (kq ≤ k) ∧ Aside0 (Kd.R (Kd.int .i64) 3 w' w.heap.size (fun _ => True) v7 x7_1) ∧ Aside0 (Below w.heap.size w w'))
  case atStart => exact ⟨(ji3), (ji4), (y101), (by first | rfl | (simp; done) | (simp only [← hji3] <;> (first | rfl | simp)) | (simp [*]; done)), (by first | rfl | (simp; done) | (simp only [← hji4] <;> (first | rfl | simp)) | (simp [*]; done)), H', ⟨Nat.le_refl _⟩, ⟨by (with_reducible repeat (first | apply Kd.R_alloc | apply Kd.R_drewN | apply Kd.R_drew)); exact HO103.out⟩, ⟨by repeat (first | (with_reducible first | exact HB.out | apply below_alloc | apply pw_below_drewN | apply below_drew1) | exact HB.out)⟩⟩
  case round =>
    clear H'
    try clear p2
    obtain ⟨x5_1, x6_1, x7_1, rfl, rfl, HA, HK1, HO_7, HB⟩ := hrel
    cases gk with
    | zero => exact absurd HA.out (by simp [impl_quotients.l0])
    | succ k1 =>
      have H := HA.out
      clear HA
      simp only [impl_quotients.l0] at H
      by_cases c7 : x6_1 > 0
      · rw [if_pos c7] at H
        have c7b0 : decide (0 < x6_1) = true := decide_eq_true c7
        clear c7
        by_cases c8 : x6_1 = 0
        · rw [if_pos c8] at H
          exact absurd H (by simp)
        · rw [if_neg c8] at H
          have c8b0 : (x6_1 == 0) = false := beq_eq_false_iff_ne.mpr c8
          have c8b1 : (x6_1 != 0) = true := bne_iff_ne.mpr c8
          by_cases c9 : x7_1.length < 17592186044416
          · rw [if_pos c9] at H
            have LMc9 := Aside0.mk c9
            clear c9
            obtain ⟨y104, hy104⟩ : ∃ y_ : List Int, y_ = (x7_1 ++ [wrap64 (Int.tdiv x5_1 x6_1)]) := ⟨_, rfl⟩
            replace H : (impl_quotients.l0 k1 x6_1 (Int.tmod x5_1 x6_1) y104) = some r := by first | (rw [hy104]; with_reducible exact H) | (have H2_ := (Option.bind_some _ _).symm.trans H; rw [hy104]; with_reducible exact H2_) | (have H2_ := (Option.bind_some _ _).symm.trans H; with_reducible exact H2_) | with_reducible exact H | (rw [hy104]; exact H) | exact H
            have Ny104 := Aside0.mk hy104
            clear hy104
            have H' := Aside0.mk H
            clear H
            go_wp2_with (first | ((with_reducible refine gate_builtin (b := .append) (xs := #[.tmp 17, .tmp 21]) rfl ?_); at_builtin; refine Kd.R_append (Kd.int .i64) (w0 := w) w.heap.size rfl (.tmp 17) (.tmp 21) 25 3 (.int .i64 0) 8 rfl Try.underlying25 info3 rfl (by decide) (by omega) u7 x7_1 (wrap64 (Int.tdiv x5_1 x6_1)) [.int .i64 (wrap64 (Int.tdiv x5_1 x6_1))] (fun _ => True) (fun _ => False) rfl rfl ?aP (fun _ hk => hk.elim) ?aF ?aO ?aB ?aS ?aL ?_; (case aP => exact rfl); (case aB => exact (by repeat (first | (with_reducible first | exact HB.out | apply below_alloc | apply pw_below_drewN | apply below_drew1) | exact HB.out))); (case aF => exact (fun _ _ => trivial)); (case aO => exact (by (with_reducible repeat (first | apply Kd.R_alloc | apply Kd.R_drewN | apply Kd.R_drew)); exact HO_7.out)); (case aS => exact (below_size (by repeat (first | (with_reducible first | exact HB.out | apply below_alloc | apply pw_below_drewN | apply below_drew1) | exact HB.out)))); (case aL => have := LMc9.out; omega); intro v105 w10 ho hb hg hat; rw [← Ny104.out] at ho; have n0_ := Aside0.mk (hb); have n1_ := Aside0.mk (ho); clear HB; clear HO_7; have HB := n0_; have HO106 := n1_; clear n0_ n1_; clear ho hb hg hat))
            repeat (go_quiet (first | ((with_reducible refine gate_builtin (b := .append) (xs := #[.tmp 17, .tmp 21]) rfl ?_); at_builtin; refine Kd.R_append (Kd.int .i64) (w0 := w) w.heap.size rfl (.tmp 17) (.tmp 21) 25 3 (.int .i64 0) 8 rfl Try.underlying25 info3 rfl (by decide) (by omega) u7 x7_1 (wrap64 (Int.tdiv x5_1 x6_1)) [.int .i64 (wrap64 (Int.tdiv x5_1 x6_1))] (fun _ => True) (fun _ => False) rfl rfl ?aP (fun _ hk => hk.elim) ?aF ?aO ?aB ?aS ?aL ?_; (case aP => exact rfl); (case aB => exact (by repeat (first | (with_reducible first | exact HB.out | apply below_alloc | apply pw_below_drewN | apply below_drew1) | exact HB.out))); (case aF => exact (fun _ _ => trivial)); (case aO => exact (by (with_reducible repeat (first | apply Kd.R_alloc | apply Kd.R_drewN | apply Kd.R_drew)); exact HO_7.out)); (case aS => exact (below_size (by repeat (first | (with_reducible first | exact HB.out | apply below_alloc | apply pw_below_drewN | apply below_drew1) | exact HB.out)))); (case aL => have := LMc9.out; omega); intro v105 w10 ho hb hg hat; rw [← Ny104.out] at ho; have n0_ := Aside0.mk (hb); have n1_ := Aside0.mk (ho); clear HB; clear HO_7; have HB := n0_; have HO106 := n1_; clear n0_ n1_; clear ho hb hg hat)); try go_wp2_with (first | ((with_reducible refine gate_builtin (b := .append) (xs := #[.tmp 17, .tmp 21]) rfl ?_); at_builtin; refine Kd.R_append (Kd.int .i64) (w0 := w) w.heap.size rfl (.tmp 17) (.tmp 21) 25 3 (.int .i64 0) 8 rfl Try.underlying25 info3 rfl (by decide) (by omega) u7 x7_1 (wrap64 (Int.tdiv x5_1 x6_1)) [.int .i64 (wrap64 (Int.tdiv x5_1 x6_1))] (fun _ => True) (fun _ => False) rfl rfl ?aP (fun _ hk => hk.elim) ?aF ?aO ?aB ?aS ?aL ?_; (case aP => exact rfl); (case aB => exact (by repeat (first | (with_reducible first | exact HB.out | apply below_alloc | apply pw_below_drewN | apply below_drew1) | exact HB.out))); (case aF => exact (fun _ _ => trivial)); (case aO => exact (by (with_reducible repeat (first | apply Kd.R_alloc | apply Kd.R_drewN | apply Kd.R_drew)); exact HO_7.out)); (case aS => exact (below_size (by repeat (first | (with_reducible first | exact HB.out | apply below_alloc | apply pw_below_drewN | apply below_drew1) | exact HB.out)))); (case aL => have := LMc9.out; omega); intro v105 w10 ho hb hg hat; rw [← Ny104.out] at ho; have n0_ := Aside0.mk (hb); have n1_ := Aside0.mk (ho); clear HB; clear HO_7; have HB := n0_; have HO106 := n1_; clear n0_ n1_; clear ho hb hg hat)))
            go_roundg k1
            case measure => have := HK1.out; omega
            case rel => exact ⟨(x6_1), (Int.tmod x5_1 x6_1), (y104), (by first | rfl | (simp; done) | (simp [*]; done)), (by first | rfl | (simp; done) | (simp [*]; done)), H', ⟨by have := HK1.out; omega⟩, ⟨by (with_reducible repeat (first | apply Kd.R_alloc | apply Kd.R_drewN | apply Kd.R_drew)); exact HO106.out⟩, ⟨by repeat (first | (with_reducible first | exact HB.out | apply below_alloc | apply pw_below_drewN | apply below_drew1) | exact HB.out)⟩⟩
          · rw [if_neg c9] at H
            exact absurd H (by simp)
      · rw [if_neg c7] at H
        have c7b0 : decide (0 < x6_1) = false := decide_eq_false c7
        clear c7
        obtain rfl := Option.some.inj H
        go_wp2
        repeat (go_quiet (fail); try go_wp2)
        go_ret
        exact ⟨_, by first | rfl | (simp [errW_none, errW_some] <;> rfl) | (simp only [← hji3, ← hji4]; first | rfl | (simp [errW_none, errW_some] <;> rfl)) | (simp [*, errW_none, errW_some] <;> rfl), by (with_reducible repeat (first | apply Kd.R_alloc | apply Kd.R_drewN | apply Kd.R_drew)); exact HO_7.out, by repeat (first | (with_reducible first | exact HB.out | apply below_alloc | apply pw_below_drewN | apply below_drew1) | exact HB.out)⟩

end Go.Proofs.Ytfmhcgjmgaefcab.P

namespace Go.Proofs.Ytfmhcgjmgaefcab.P
open Go.RowKit Go.Proofs.YtfmhcgjmgaefcabW.PrintWords Go.Proofs.YtfmhcgjmgaefcabW.PrintLast Go.Proofs.YtfmhcgjmgaefcabW.PrintMore
attribute [local go_sem] max2_int min2_int max_two min_two max_three min_three max_four min_four
set_option linter.unusedVariables false
set_option linter.unusedSimpArgs false

/-! ### impl_QuotientsOf: function 74 -/
def impl_QuotientsOf.f (k : Nat) (a0 : Int) (a1 : Int) : Option (List Int × Bool) := (impl_isRatio.f a0 a1).bind fun t101 => (if t101 = true then ((impl_quotients.f k a0 a1).bind fun t102 => (some (t102, true))) else (some (([] : List Int), false)))
theorem impl_QuotientsOf.mono : ∀ a0 a1 k, LeO (impl_QuotientsOf.f k a0 a1) (impl_QuotientsOf.f (k + 1) a0 a1) := by
  intro a0 a1 k
  unfold impl_QuotientsOf.f
  repeat' first
      | (with_reducible exact impl_quotients.mono _ _ _)
      | (with_reducible exact LeO.refl _)
      | (with_reducible exact LeO.none _)
      | (with_reducible refine LeO.ite ?_ ?_)
      | (with_reducible refine LeO.bind ?_ (fun _ => ?_))
      | exact impl_quotients.mono _ _ _
      | exact LeO.none _
      | refine LeO.ite ?_ ?_
      | refine LeO.bind ?_ (fun _ => ?_)
set_option maxHeartbeats 8000000 in
set_option maxRecDepth 100000 in
theorem impl_QuotientsOf.calls (k : Nat) (a0 : Int) (a1 : Int) (r1 : List Int) (r2 : Bool) (w : World) (h : impl_QuotientsOf.f k a0 a1 = some (r1, r2)) :
    Calls Try.prog 74 #[.int .i64 a0, .int .i64 a1] w fun e w' => ∃ v0_ : Value, e = .returned (.tuple #[v0_, .bool r2]) ∧ Kd.R (Kd.int .i64) 3 w' w.heap.size (fun _ => True) v0_ r1 ∧ Below w.heap.size w w' := by
  have HB := Aside0.mk (Below.refl w.heap.size w)
  have H : ((impl_isRatio.f a0 a1).bind fun t101 => (if t101 = true then ((impl_quotients.f k a0 a1).bind fun t102 => (some (t102, true))) else (some (([] : List Int), false)))) = some (r1, r2) := h
  clear h
  replace H := Option.bind_eq_some_iff.mp H
  obtain ⟨t101, A30, H⟩ := H
  replace H : (if t101 = true then ((impl_quotients.f k a0 a1).bind fun t102 => (some (t102, true))) else (some (([] : List Int), false))) = some (r1, r2) := H
  have A3 := Aside0.mk A30
  clear A30
  by_cases c4 : t101 = true
  · subst c4
    have H1 : ((impl_quotients.f k a0 a1).bind fun t102 => (some (t102, true))) = some (r1, r2) := by rw [if_pos rfl] at H; exact H
    clear H
    have H := H1
    clear H1
    replace H := Option.bind_eq_some_iff.mp H
    obtain ⟨t102, A50, H⟩ := H
    replace H : (some (t102, true)) = some (r1, r2) := H
    have A5 := Aside0.mk A50
    clear A50
    simp only [Option.some.injEq, Prod.mk.injEq] at H
    obtain ⟨rfl, rfl⟩ := H
    go_enter Try.func74, Try.ntmps74
    go_wp2_with (first | ((with_reducible refine gate_callee (f := 85) rfl ?_); refine goesL_ (some 8) rfl rfl Try.func85 (by kernel_rfl) rfl #[.int .i64 a0, .int .i64 a1] rfl (by (try simp only [List.map_toArray, List.map_cons, List.map_nil]); first | done | rfl | (simp only [List.length_drop, List.length_take]; rfl)) ?_; (with_reducible refine (impl_isRatio.calls a0 a1 true _ A3.out).mono ?_); rintro e w' ⟨rfl, ⟨nd, rfl⟩⟩; refine ⟨_, rfl, ?_⟩) | ((with_reducible refine gate_callee (f := 86) rfl ?_); refine goesL_ (some 12) rfl rfl Try.func86 (by kernel_rfl) rfl #[.int .i64 a0, .int .i64 a1] rfl (by (try simp only [List.map_toArray, List.map_cons, List.map_nil]); first | done | rfl | (simp only [List.length_drop, List.length_take]; rfl)) ?_; (with_reducible refine (impl_quotients.calls k a0 a1 t102 _ A5.out).mono ?_); rintro e w6 ⟨v103, rfl, ho0, hb⟩; refine ⟨_, rfl, ?_⟩; have n0_ := Aside0.mk (Kd.R_lower ho0 (below_size (by repeat (first | (with_reducible first | exact HB.out | apply below_alloc | apply pw_below_drewN | apply below_drew1) | exact HB.out)))); have n1_ := Aside0.mk (below_step (by repeat (first | (with_reducible first | exact HB.out | apply below_alloc | apply pw_below_drewN | apply below_drew1) | exact HB.out)) hb); clear HB; have HO104 := n0_; have HB := n1_; clear n0_ n1_; (try clear hb); (try clear hb2); (try clear hk); (try clear hi); (try clear ho0)))
    go_ret2
    exact ⟨_, by first | rfl | (simp [errW_none, errW_some] <;> rfl) | (simp [*, errW_none, errW_some] <;> rfl), by (with_reducible repeat (first | apply Kd.R_alloc | apply Kd.R_drewN | apply Kd.R_drew)); exact HO104.out, by repeat (first | (with_reducible first | exact HB.out | apply below_alloc | apply pw_below_drewN | apply below_drew1) | exact HB.out)⟩
  · replace c4 := Bool.eq_false_iff.mpr c4
    subst c4
    have H1 : (some (([] : List Int), false)) = some (r1, r2) := by rw [if_neg (show ¬ (false = true) by decide)] at H; exact H
    clear H
    have H := H1
    clear H1
    simp only [Option.some.injEq, Prod.mk.injEq] at H
    obtain ⟨rfl, rfl⟩ := H
    go_enter Try.func74, Try.ntmps74
    go_wp2_with (first | ((with_reducible refine gate_callee (f := 85) rfl ?_); refine goesL_ (some 8) rfl rfl Try.func85 (by kernel_rfl) rfl #[.int .i64 a0, .int .i64 a1] rfl (by (try simp only [List.map_toArray, List.map_cons, List.map_nil]); first | done | rfl | (simp only [List.length_drop, List.length_take]; rfl)) ?_; (with_reducible refine (impl_isRatio.calls a0 a1 false _ A3.out).mono ?_); rintro e w' ⟨rfl, ⟨nd, rfl⟩⟩; refine ⟨_, rfl, ?_⟩))
    go_ret2
    exact ⟨_, by first | rfl | (simp [errW_none, errW_some] <;> rfl) | (simp [*, errW_none, errW_some] <;> rfl), by first | exact Kd.R_nil _ _ _ _ _ | exact Kd.N_nil _ _ _ _ _ | exact Kd.V_nil _ _ _ _ _ | exact Kd.Q_nil _ _ _ _ _ | exact Kd.S_nil _ _ _ _ _, by repeat (first | (with_reducible first | exact HB.out | apply below_alloc | apply pw_below_drewN | apply below_drew1) | exact HB.out)⟩

end Go.Proofs.Ytfmhcgjmgaefcab.P

namespace Go.Proofs.Ytfmhcgjmgaefcab.P
open Go.RowKit Go.Proofs.YtfmhcgjmgaefcabW.PrintWords Go.Proofs.YtfmhcgjmgaefcabW.PrintLast Go.Proofs.YtfmhcgjmgaefcabW.PrintMore
attribute [local go_sem] max2_int min2_int max_two min_two max_three min_three max_four min_four
set_option linter.unusedVariables false
set_option linter.unusedSimpArgs false

/-! ### impl_sum: function 75 -/
def impl_sum.l0 : Nat → Int → List Int → Int → Int → Option (Int)
  | 0, _, _, _, _ => none
  | k + 1, x3, x6, x7, x8 => if x8 < x7 then (if 0 ≤ x8 then (if x8 < (x6.length : Int) then (impl_sum.l0 k (wrap64 (x3 + (rd x6 x8))) x6 x7 (wrap64 (x8 + 1))) else (none)) else (none)) else (some x3)
def impl_sum.f (k : Nat) (l0 : List Int) : Option (Int) := impl_sum.l0 k 0 l0 (l0.length : Int) 0
theorem impl_sum.mono_l : ∀ k, (∀ y0 y1 y2 y3, LeO (impl_sum.l0 k y0 y1 y2 y3) (impl_sum.l0 (k + 1) y0 y1 y2 y3))
  | 0 => fun _ _ _ _ r h => by simp [impl_sum.l0] at h
  | k + 1 => by
    have ih0 := impl_sum.mono_l k
    · intro y0 y1 y2 y3
      unfold impl_sum.l0
      repeat' first
      | (with_reducible exact ih0 _ _ _ _)
      | (with_reducible exact LeO.refl _)
      | (with_reducible exact LeO.none _)
      | (with_reducible refine LeO.ite ?_ ?_)
      | (with_reducible refine LeO.bind ?_ (fun _ => ?_))
      | exact ih0 _ _ _ _
      | exact LeO.none _
      | refine LeO.ite ?_ ?_
      | refine LeO.bind ?_ (fun _ => ?_)
theorem impl_sum.mono : ∀ a0 k, LeO (impl_sum.f k a0) (impl_sum.f (k + 1) a0) := by
  intro a0 k
  have ih0 := impl_sum.mono_l k
  unfold impl_sum.f
  repeat' first
      | (with_reducible exact ih0 _ _ _ _)
      | (with_reducible exact LeO.refl _)
      | (with_reducible exact LeO.none _)
      | (with_reducible refine LeO.ite ?_ ?_)
      | (with_reducible refine LeO.bind ?_ (fun _ => ?_))
      | exact ih0 _ _ _ _
      | exact LeO.none _
      | refine LeO.ite ?_ ?_
      | refine LeO.bind ?_ (fun _ => ?_)
set_option maxHeartbeats 8000000 in
set_option maxRecDepth 100000 in
theorem impl_sum.calls (k : Nat) (A0 : Option Addr) (c0 : Nat) (l0 : List Int) (r : Int) (w : World) (hr0 : Kd.C (Kd.int .i64) w A0 l0.length l0) (hc0 : l0.length ≤ c0) (h : impl_sum.f k l0 = some r) :
    Calls Try.prog 75 #[.slice A0 l0.length c0] w fun e w' => e = .returned (.int .i64 r) ∧ Drawn0 w w' := by
  have HR0 := Aside0.mk hr0
  have HC0 := Aside0.mk hc0
  clear hr0 hc0
  have H : (impl_sum.l0 k 0 l0 (l0.length : Int) 0) = some r := h
  clear h
  have H' := Aside0.mk H
  clear H
  go_enter Try.func75, Try.ntmps75
  go_wp2
  go_loopg [3, 8] k (fun kq v3 v8 w' => ∃ (x3_1 : Int) (x8_1 : Int), v3 = .int .i64 x3_1 ∧ v8 = .int .i64 x8_1 ∧ Aside0 (impl_sum.l0 kq x3_1 l0 (l0.length : Int) x8_1 = some r) ∧ Aside0 (kq ≤ k) ∧ Drawn0 w w')
  case atStart => exact ⟨(0), (0), (by first | rfl | (simp; done) | (simp [*]; done)), (by first | rfl | (simp; done) | (simp [*]; done)), H', ⟨Nat.le_refl _⟩, by repeat (first | exact Drawn0.refl _ | apply Drawn0.step)⟩
  case round =>
    clear H'
    obtain ⟨x3_1, x8_1, rfl, rfl, HA, HK1, ⟨m1, rfl⟩⟩ := hrel
    cases gk with
    | zero => exact absurd HA.out (by simp [impl_sum.l0])
    | succ k1 =>
      have H := HA.out
      clear HA
      simp only [impl_sum.l0] at H
      by_cases c2 : x8_1 < (l0.length : Int)
      · rw [if_pos c2] at H
        have c2b0 : decide (x8_1 < (l0.length : Int)) = true := decide_eq_true c2
        clear c2
        by_cases c3 : 0 ≤ x8_1
        · rw [if_pos c3] at H
          have c3b0 : decide (0 ≤ x8_1) = true := decide_eq_true c3
          clear c3
          by_cases c4 : x8_1 < (l0.length : Int)
          · rw [if_pos c4] at H
            have c4b0 : decide (x8_1 < (l0.length : Int)) = true := decide_eq_true c4
            clear c4
            have H' := Aside0.mk H
            clear H
            have p101 : 0 ≤ (x8_1 : Int) := of_decide_eq_true (by first | (with_reducible assumption) | assumption)
            have q101 : x8_1 < (l0.length : Int) := of_decide_eq_true (by first | (with_reducible assumption) | assumption)
            obtain ⟨ad101, e101, hx101_0⟩ := Kd.at_int HR0.out x8_1 p101 q101
            cases e101
            replace p101 := eq_true p101
            replace q101 := eq_true q101
            go_wp2
            go_roundg k1
            case measure => have := HK1.out; omega
            case rel => exact ⟨(wrap64 (x3_1 + (rd l0 x8_1))), (wrap64 (x8_1 + 1)), (by first | rfl | (simp; done) | (simp [*]; done)), (by first | rfl | (simp; done) | (simp [*]; done)), H', ⟨by have := HK1.out; omega⟩, by repeat (first | exact Drawn0.refl _ | apply Drawn0.step)⟩
          · rw [if_neg c4] at H
            exact absurd H (by simp)
        · rw [if_neg c3] at H
          exact absurd H (by simp)
      · rw [if_neg c2] at H
        have c2b0 : decide (x8_1 < (l0.length : Int)) = false := decide_eq_false c2
        clear c2
        obtain rfl := Option.some.inj H
        go_wp2
        go_ret
        exact ⟨by first | rfl | (simp; done) | (simp [*]; done), by repeat (first | exact Drawn0.refl _ | apply Drawn0.step)⟩

end Go.Proofs.Ytfmhcgjmgaefcab.P

namespace Go.Proofs.Ytfmhcgjmgaefcab.P
open Go.RowKit Go.Proofs.YtfmhcgjmgaefcabW.PrintWords Go.Proofs.YtfmhcgjmgaefcabW.PrintLast Go.Proofs.YtfmhcgjmgaefcabW.PrintMore
attribute [local go_sem] max2_int min2_int max_two min_two max_three min_three max_four min_four
set_option linter.unusedVariables false
set_option linter.unusedSimpArgs false

/-! ### impl_CountGreedy: function 47 -/
def impl_CountGreedy.f (k : Nat) (a0 : Int) (a1 : Int) : Option (Int × Bool) := (impl_QuotientsOf.f k a0 a1).bind fun bt101 => ((impl_sum.f k bt101.1).bind fun t105 => (some (t105, bt101.2)))
theorem impl_CountGreedy.mono : ∀ a0 a1 k, LeO (impl_CountGreedy.f k a0 a1) (impl_CountGreedy.f (k + 1) a0 a1) := by
  intro a0 a1 k
  unfold impl_CountGreedy.f
  repeat' first
      | (with_reducible exact impl_QuotientsOf.mono _ _ _)
      | (with_reducible exact impl_sum.mono _ _)
      | (with_reducible exact LeO.refl _)
      | (with_reducible exact LeO.none _)
      | (with_reducible refine LeO.ite ?_ ?_)
      | (with_reducible refine LeO.bind ?_ (fun _ => ?_))
      | exact impl_QuotientsOf.mono _ _ _
      | exact impl_sum.mono _ _
      | exact LeO.none _
      | refine LeO.ite ?_ ?_
      | refine LeO.bind ?_ (fun _ => ?_)
set_option maxHeartbeats 8000000 in
set_option maxRecDepth 100000 in
theorem impl_CountGreedy.calls (k : Nat) (a0 : Int) (a1 : Int) (r1 : Int) (r2 : Bool) (w : World) (h : impl_CountGreedy.f k a0 a1 = some (r1, r2)) :
    Calls Try.prog 47 #[.int .i64 a0, .int .i64 a1] w fun e w' => e = .returned (.tuple #[.int .i64 r1, .bool r2]) ∧ Below w.heap.size w w' := by
  have HB := Aside0.mk (Below.refl w.heap.size w)
  have H : ((impl_QuotientsOf.f k a0 a1).bind fun bt101 => ((impl_sum.f k bt101.1).bind fun t105 => (some (t105, bt101.2)))) = some (r1, r2) := h
  clear h
  replace H := Option.bind_eq_some_iff.mp H
  obtain ⟨⟨t101, t102⟩, A30, H⟩ := H
  replace H : ((impl_sum.f k t101).bind fun t105 => (some (t105, t102))) = some (r1, r2) := H
  have A3 := Aside0.mk A30
  clear A30
  replace H := Option.bind_eq_some_iff.mp H
  obtain ⟨t105, A40, H⟩ := H
  replace H : (some (t105, t102)) = some (r1, r2) := H
  have A4 := Aside0.mk A40
  clear A40
  simp only [Option.some.injEq, Prod.mk.injEq] at H
  obtain ⟨rfl, rfl⟩ := H
  go_enter Try.func47, Try.ntmps47
  go_wp2_with (first | ((with_reducible refine gate_callee (f := 74) rfl ?_); refine goesL_ (some 11) rfl rfl Try.func74 (by kernel_rfl) rfl #[.int .i64 a0, .int .i64 a1] rfl (by (try simp only [List.map_toArray, List.map_cons, List.map_nil]); first | done | rfl | (simp only [List.length_drop, List.length_take]; rfl)) ?_; (with_reducible refine (impl_QuotientsOf.calls k a0 a1 t101 t102 _ A3.out).mono ?_); rintro e w5 ⟨v103, rfl, ho0, hb⟩; refine ⟨_, rfl, ?_⟩; have n0_ := Aside0.mk (Kd.R_lower ho0 (below_size (by repeat (first | (with_reducible first | exact HB.out | apply below_alloc | apply pw_below_drewN | apply below_drew1) | exact HB.out)))); have n1_ := Aside0.mk (below_step (by repeat (first | (with_reducible first | exact HB.out | apply below_alloc | apply pw_below_drewN | apply below_drew1) | exact HB.out)) hb); clear HB; have HO104 := n0_; have HB := n1_; clear n0_ n1_; (try clear hb); (try clear hb2); (try clear hk); (try clear hi); (try clear ho0); obtain ⟨Ao6, co6, eo6⟩ := Kd.R_slice HO104.out; subst eo6) | ((with_reducible refine gate_callee (f := 75) rfl ?_); refine goesL_ (some 15) rfl rfl Try.func75 (by kernel_rfl) rfl #[.slice Ao6 t101.length co6] rfl (by (try simp only [List.map_toArray, List.map_cons, List.map_nil]); first | done | rfl | (simp only [List.length_drop, List.length_take]; rfl)) ?_; (with_reducible refine (impl_sum.calls k _ _ t101 t105 _ ?side1 ?side2 A4.out).mono ?_); (case side1 => repeat (first | exact (Kd.R_reads' HO104.out).2.2 | (with_reducible refine Kd.C_alloc ?_ _) | (with_reducible refine Kd.C_drewN ?_ _) | (with_reducible refine Kd.C_drew ?_))); (case side2 => exact (Kd.R_reads' HO104.out).2.1); rintro e w' ⟨rfl, ⟨nd, rfl⟩⟩; refine ⟨_, rfl, ?_⟩))
  go_ret2
  exact ⟨by first | rfl | (simp [errW_none, errW_some] <;> rfl) | (simp [*, errW_none, errW_some] <;> rfl), by repeat (first | (with_reducible first | exact HB.out | apply below_alloc | apply pw_below_drewN | apply below_drew1) | exact HB.out)⟩

end Go.Proofs.Ytfmhcgjmgaefcab.P

namespace Go.Proofs.Ytfmhcgjmgaefcab.P
open Go.RowKit Go.Proofs.YtfmhcgjmgaefcabW.PrintWords Go.Proofs.YtfmhcgjmgaefcabW.PrintLast Go.Proofs.YtfmhcgjmgaefcabW.PrintMore
attribute [local go_sem] max2_int min2_int max_two min_two max_three min_three max_four min_four
set_option linter.unusedVariables false
set_option linter.unusedSimpArgs false

/-! ### impl_GreedyLose: function 25 -/
def impl_GreedyLose.f (k : Nat) (a0 : Int) (a1 : Int) : Option (Int × Bool) := (impl_FewestSquares.f a0 a1).bind fun bt101 => (if bt101.2 = true then ((impl_CountGreedy.f k a0 a1).bind fun bt103 => (some (wrap64 (bt103.1 - bt101.1), true))) else (some (0, false)))
theorem impl_GreedyLose.mono : ∀ a0 a1 k, LeO (impl_GreedyLose.f k a0 a1) (impl_GreedyLose.f (k + 1) a0 a1) := by
  intro a0 a1 k
  unfold impl_GreedyLose.f
  repeat' first
      | (with_reducible exact impl_CountGreedy.mono _ _ _)
      | (with_reducible exact LeO.refl _)
      | (with_reducible exact LeO.none _)
      | (with_reducible refine LeO.ite ?_ ?_)
      | (with_reducible refine LeO.bind ?_ (fun _ => ?_))
      | exact impl_CountGreedy.mono _ _ _
      | exact LeO.none _
      | refine LeO.ite ?_ ?_
      | refine LeO.bind ?_ (fun _ => ?_)
set_option maxHeartbeats 8000000 in
set_option maxRecDepth 100000 in
theorem impl_GreedyLose.calls (k : Nat) (a0 : Int) (a1 : Int) (r1 : Int) (r2 : Bool) (w : World) (h : impl_GreedyLose.f k a0 a1 = some (r1, r2)) :
    Calls Try.prog 25 #[.int .i64 a0, .int .i64 a1] w fun e w' => e = .returned (.tuple #[.int .i64 r1, .bool r2]) ∧ Below w.heap.size w w' := by
  have HB := Aside0.mk (Below.refl w.heap.size w)
  have H : ((impl_FewestSquares.f a0 a1).bind fun bt101 => (if bt101.2 = true then ((impl_CountGreedy.f k a0 a1).bind fun bt103 => (some (wrap64 (bt103.1 - bt101.1), true))) else (some (0, false)))) = some (r1, r2) := h
  clear h
  replace H := Option.bind_eq_some_iff.mp H
  obtain ⟨⟨t101, t102⟩, A30, H⟩ := H
  replace H : (if t102 = true then ((impl_CountGreedy.f k a0 a1).bind fun bt103 => (some (wrap64 (bt103.1 - t101), true))) else (some (0, false))) = some (r1, r2) := H
  have A3 := Aside0.mk A30
  clear A30
  by_cases c4 : t102 = true
  · subst c4
    have H1 : ((impl_CountGreedy.f k a0 a1).bind fun bt103 => (some (wrap64 (bt103.1 - t101), true))) = some (r1, r2) := by rw [if_pos rfl] at H; exact H
    clear H
    have H := H1
    clear H1
    replace H := Option.bind_eq_some_iff.mp H
    obtain ⟨⟨t103, t104⟩, A50, H⟩ := H
    replace H : (some (wrap64 (t103 - t101), true)) = some (r1, r2) := H
    have A5 := Aside0.mk A50
    clear A50
    simp only [Option.some.injEq, Prod.mk.injEq] at H
    obtain ⟨rfl, rfl⟩ := H
    go_enter Try.func25, Try.ntmps25
    go_wp2_with (first | ((with_reducible refine gate_callee (f := 44) rfl ?_); refine goesL_ (some 13) rfl rfl Try.func44 (by kernel_rfl) rfl #[.int .i64 a0, .int .i64 a1] rfl (by (try simp only [List.map_toArray, List.map_cons, List.map_nil]); first | done | rfl | (simp only [List.length_drop, List.length_take]; rfl)) ?_; (with_reducible refine (impl_FewestSquares.calls a0 a1 t101 true _ A3.out).mono ?_); rintro e w6 ⟨rfl, hb⟩; refine ⟨_, rfl, ?_⟩; have n0_ := Aside0.mk (below_step (by repeat (first | (with_reducible first | exact HB.out | apply below_alloc | apply pw_below_drewN | apply below_drew1) | exact HB.out)) hb); clear HB; have HB := n0_; clear n0_; (try clear hb); (try clear hb2); (try clear hk); (try clear hi)) | ((with_reducible refine gate_callee (f := 47) rfl ?_); refine goesL_ (some 21) rfl rfl Try.func47 (by kernel_rfl) rfl #[.int .i64 a0, .int .i64 a1] rfl (by (try simp only [List.map_toArray, List.map_cons, List.map_nil]); first | done | rfl | (simp only [List.length_drop, List.length_take]; rfl)) ?_; (with_reducible refine (impl_CountGreedy.calls k a0 a1 t103 t104 _ A5.out).mono ?_); rintro e w7 ⟨rfl, hb⟩; refine ⟨_, rfl, ?_⟩; have n0_ := Aside0.mk (below_step (by repeat (first | (with_reducible first | exact HB.out | apply below_alloc | apply pw_below_drewN | apply below_drew1) | exact HB.out)) hb); clear HB; have HB := n0_; clear n0_; (try clear hb); (try clear hb2); (try clear hk); (try clear hi)))
    go_ret2
    exact ⟨by first | rfl | (simp [errW_none, errW_some] <;> rfl) | (simp [*, errW_none, errW_some] <;> rfl), by repeat (first | (with_reducible first | exact HB.out | apply below_alloc | apply pw_below_drewN | apply below_drew1) | exact HB.out)⟩
  · replace c4 := Bool.eq_false_iff.mpr c4
    subst c4
    have H1 : (some (0, false)) = some (r1, r2) := by rw [if_neg (show ¬ (false = true) by decide)] at H; exact H
    clear H
    have H := H1
    clear H1
    simp only [Option.some.injEq, Prod.mk.injEq] at H
    obtain ⟨rfl, rfl⟩ := H
    go_enter Try.func25, Try.ntmps25
    go_wp2_with (first | ((with_reducible refine gate_callee (f := 44) rfl ?_); refine goesL_ (some 13) rfl rfl Try.func44 (by kernel_rfl) rfl #[.int .i64 a0, .int .i64 a1] rfl (by (try simp only [List.map_toArray, List.map_cons, List.map_nil]); first | done | rfl | (simp only [List.length_drop, List.length_take]; rfl)) ?_; (with_reducible refine (impl_FewestSquares.calls a0 a1 t101 false _ A3.out).mono ?_); rintro e w8 ⟨rfl, hb⟩; refine ⟨_, rfl, ?_⟩; have n0_ := Aside0.mk (below_step (by repeat (first | (with_reducible first | exact HB.out | apply below_alloc | apply pw_below_drewN | apply below_drew1) | exact HB.out)) hb); clear HB; have HB := n0_; clear n0_; (try clear hb); (try clear hb2); (try clear hk); (try clear hi)))
    go_ret2
    exact ⟨by first | rfl | (simp [errW_none, errW_some] <;> rfl) | (simp [*, errW_none, errW_some] <;> rfl), by repeat (first | (with_reducible first | exact HB.out | apply below_alloc | apply pw_below_drewN | apply below_drew1) | exact HB.out)⟩

end Go.Proofs.Ytfmhcgjmgaefcab.P

namespace Go.Proofs.Ytfmhcgjmgaefcab.P
open Go.RowKit Go.Proofs.YtfmhcgjmgaefcabW.PrintWords Go.Proofs.YtfmhcgjmgaefcabW.PrintLast Go.Proofs.YtfmhcgjmgaefcabW.PrintMore
attribute [local go_sem] max2_int min2_int max_two min_two max_three min_three max_four min_four
set_option linter.unusedVariables false
set_option linter.unusedSimpArgs false

/-! ### laws_FnExactGreedyLose: function 7 -/
def laws_FnExactGreedyLose.f (k : Nat) (a0 : Int) (a1 : Int) : Option (Bool) := (spec_GreedyLose.f k a0 a1).bind fun bt101 => ((impl_GreedyLose.f k a0 a1).bind fun bt103 => (if bt103.1 = bt101.1 then (if (bt103.2 != bt101.2) = true then (some false) else (some true)) else (some false)))
theorem laws_FnExactGreedyLose.mono : ∀ a0 a1 k, LeO (laws_FnExactGreedyLose.f k a0 a1) (laws_FnExactGreedyLose.f (k + 1) a0 a1) := by
  intro a0 a1 k
  unfold laws_FnExactGreedyLose.f
  repeat' first
      | (with_reducible exact impl_GreedyLose.mono _ _ _)
      | (with_reducible exact spec_GreedyLose.mono _ _ _)
      | (with_reducible exact LeO.refl _)
      | (with_reducible exact LeO.none _)
      | (with_reducible refine LeO.ite ?_ ?_)
      | (with_reducible refine LeO.bind ?_ (fun _ => ?_))
      | exact impl_GreedyLose.mono _ _ _
      | exact spec_GreedyLose.mono _ _ _
      | exact LeO.none _
      | refine LeO.ite ?_ ?_
      | refine LeO.bind ?_ (fun _ => ?_)
set_option maxHeartbeats 8000000 in
set_option maxRecDepth 100000 in
theorem laws_FnExactGreedyLose.calls (k : Nat) (a0 : Int) (a1 : Int) (r : Bool) (w : World) (h : laws_FnExactGreedyLose.f k a0 a1 = some r) :
    Calls Try.prog 7 #[.int .i64 a0, .int .i64 a1] w fun e w' => e = .returned (.bool r) ∧ Below w.heap.size w w' := by
  have HB := Aside0.mk (Below.refl w.heap.size w)
  have H : ((spec_GreedyLose.f k a0 a1).bind fun bt101 => ((impl_GreedyLose.f k a0 a1).bind fun bt103 => (if bt103.1 = bt101.1 then (if (bt103.2 != bt101.2) = true then (some false) else (some true)) else (some false)))) = some r := h
  clear h
  replace H := Option.bind_eq_some_iff.mp H
  obtain ⟨⟨t101, t102⟩, A30, H⟩ := H
  replace H : ((impl_GreedyLose.f k a0 a1).bind fun bt103 => (if bt103.1 = t101 then (if (bt103.2 != t102) = true then (some false) else (some true)) else (some false))) = some r := H
  have A3 := Aside0.mk A30
  clear A30
  replace H := Option.bind_eq_some_iff.mp H
  obtain ⟨⟨t103, t104⟩, A40, H⟩ := H
  replace H : (if t103 = t101 then (if (t104 != t102) = true then (some false) else (some true)) else (some false)) = some r := H
  have A4 := Aside0.mk A40
  clear A40
  by_cases c5 : t103 = t101
  · rw [if_pos c5] at H
    have c5b0 : (t103 == t101) = true := beq_iff_eq.mpr c5
    have c5b1 : (t103 != t101) = false := bne_eq_false_iff_eq.mpr c5
    clear c5
    by_cases c6 : (t104 != t102) = true
    · rw [if_pos c6] at H
      have c6b0 : (t104 != t102) = true := c6
      (try (have c6b1 : decide (t104 = t102) = false := by simpa using c6))
      (try (have c6b2 : (t104 == t102) = false := by simpa using c6))
      (try (have c6b3 : ¬ (t104 = t102) := by simpa using c6))
      clear c6
      obtain rfl := Option.some.inj H
      go_enter Try.func7, Try.ntmps7
      go_wp2_with (first | ((with_reducible refine gate_callee (f := 24) rfl ?_); refine goesL_ (some 12) rfl rfl Try.func24 (by kernel_rfl) rfl #[.int .i64 a0, .int .i64 a1] rfl (by (try simp only [List.map_toArray, List.map_cons, List.map_nil]); first | done | rfl | (simp only [List.length_drop, List.length_take]; rfl)) ?_; (with_reducible refine (spec_GreedyLose.calls k a0 a1 t101 t102 _ A3.out).mono ?_); rintro e w7 ⟨rfl, hb⟩; refine ⟨_, rfl, ?_⟩; have n0_ := Aside0.mk (below_step (by repeat (first | (with_reducible first | exact HB.out | apply below_alloc | apply pw_below_drewN | apply below_drew1) | exact HB.out)) hb); clear HB; have HB := n0_; clear n0_; (try clear hb); (try clear hb2); (try clear hk); (try clear hi)) | ((with_reducible refine gate_callee (f := 25) rfl ?_); refine goesL_ (some 18) rfl rfl Try.func25 (by kernel_rfl) rfl #[.int .i64 a0, .int .i64 a1] rfl (by (try simp only [List.map_toArray, List.map_cons, List.map_nil]); first | done | rfl | (simp only [List.length_drop, List.length_take]; rfl)) ?_; (with_reducible refine (impl_GreedyLose.calls k a0 a1 t103 t104 _ A4.out).mono ?_); rintro e w8 ⟨rfl, hb⟩; refine ⟨_, rfl, ?_⟩; have n0_ := Aside0.mk (below_step (by repeat (first | (with_reducible first | exact HB.out | apply below_alloc | apply pw_below_drewN | apply below_drew1) | exact HB.out)) hb); clear HB; have HB := n0_; clear n0_; (try clear hb); (try clear hb2); (try clear hk); (try clear hi)))
      go_ret
      exact ⟨by first | rfl | (simp [errW_none, errW_some] <;> rfl) | (simp [*, errW_none, errW_some] <;> rfl), by repeat (first | (with_reducible first | exact HB.out | apply below_alloc | apply pw_below_drewN | apply below_drew1) | exact HB.out)⟩
    · rw [if_neg c6] at H
      have c6b0 : (t104 != t102) = false := by simpa using c6
      (try (have c6b1 : decide (t104 = t102) = true := by simpa using c6))
      (try (have c6b2 : (t104 == t102) = true := by simpa using c6))
      clear c6
      obtain rfl := Option.some.inj H
      go_enter Try.func7, Try.ntmps7
      go_wp2_with (first | ((with_reducible refine gate_callee (f := 24) rfl ?_); refine goesL_ (some 12) rfl rfl Try.func24 (by kernel_rfl) rfl #[.int .i64 a0, .int .i64 a1] rfl (by (try simp only [List.map_toArray, List.map_cons, List.map_nil]); first | done | rfl | (simp only [List.length_drop, List.length_take]; rfl)) ?_; (with_reducible refine (spec_GreedyLose.calls k a0 a1 t101 t102 _ A3.out).mono ?_); rintro e w9 ⟨rfl, hb⟩; refine ⟨_, rfl, ?_⟩; have n0_ := Aside0.mk (below_step (by repeat (first | (with_reducible first | exact HB.out | apply below_alloc | apply pw_below_drewN | apply below_drew1) | exact HB.out)) hb); clear HB; have HB := n0_; clear n0_; (try clear hb); (try clear hb2); (try clear hk); (try clear hi)) | ((with_reducible refine gate_callee (f := 25) rfl ?_); refine goesL_ (some 18) rfl rfl Try.func25 (by kernel_rfl) rfl #[.int .i64 a0, .int .i64 a1] rfl (by (try simp only [List.map_toArray, List.map_cons, List.map_nil]); first | done | rfl | (simp only [List.length_drop, List.length_take]; rfl)) ?_; (with_reducible refine (impl_GreedyLose.calls k a0 a1 t103 t104 _ A4.out).mono ?_); rintro e w10 ⟨rfl, hb⟩; refine ⟨_, rfl, ?_⟩; have n0_ := Aside0.mk (below_step (by repeat (first | (with_reducible first | exact HB.out | apply below_alloc | apply pw_below_drewN | apply below_drew1) | exact HB.out)) hb); clear HB; have HB := n0_; clear n0_; (try clear hb); (try clear hb2); (try clear hk); (try clear hi)))
      go_ret
      exact ⟨by first | rfl | (simp [errW_none, errW_some] <;> rfl) | (simp [*, errW_none, errW_some] <;> rfl), by repeat (first | (with_reducible first | exact HB.out | apply below_alloc | apply pw_below_drewN | apply below_drew1) | exact HB.out)⟩
  · rw [if_neg c5] at H
    have c5b0 : (t103 == t101) = false := beq_eq_false_iff_ne.mpr c5
    have c5b1 : (t103 != t101) = true := bne_iff_ne.mpr c5
    obtain rfl := Option.some.inj H
    go_enter Try.func7, Try.ntmps7
    go_wp2_with (first | ((with_reducible refine gate_callee (f := 24) rfl ?_); refine goesL_ (some 12) rfl rfl Try.func24 (by kernel_rfl) rfl #[.int .i64 a0, .int .i64 a1] rfl (by (try simp only [List.map_toArray, List.map_cons, List.map_nil]); first | done | rfl | (simp only [List.length_drop, List.length_take]; rfl)) ?_; (with_reducible refine (spec_GreedyLose.calls k a0 a1 t101 t102 _ A3.out).mono ?_); rintro e w11 ⟨rfl, hb⟩; refine ⟨_, rfl, ?_⟩; have n0_ := Aside0.mk (below_step (by repeat (first | (with_reducible first | exact HB.out | apply below_alloc | apply pw_below_drewN | apply below_drew1) | exact HB.out)) hb); clear HB; have HB := n0_; clear n0_; (try clear hb); (try clear hb2); (try clear hk); (try clear hi)) | ((with_reducible refine gate_callee (f := 25) rfl ?_); refine goesL_ (some 18) rfl rfl Try.func25 (by kernel_rfl) rfl #[.int .i64 a0, .int .i64 a1] rfl (by (try simp only [List.map_toArray, List.map_cons, List.map_nil]); first | done | rfl | (simp only [List.length_drop, List.length_take]; rfl)) ?_; (with_reducible refine (impl_GreedyLose.calls k a0 a1 t103 t104 _ A4.out).mono ?_); rintro e w12 ⟨rfl, hb⟩; refine ⟨_, rfl, ?_⟩; have n0_ := Aside0.mk (below_step (by repeat (first | (with_reducible first | exact HB.out | apply below_alloc | apply pw_below_drewN | apply below_drew1) | exact HB.out)) hb); clear HB; have HB := n0_; clear n0_; (try clear hb); (try clear hb2); (try clear hk); (try clear hi)))
    go_ret
    exact ⟨by first | rfl | (simp [errW_none, errW_some] <;> rfl) | (simp [*, errW_none, errW_some] <;> rfl), by repeat (first | (with_reducible first | exact HB.out | apply below_alloc | apply pw_below_drewN | apply below_drew1) | exact HB.out)⟩

/-- THE ONE PURE STATEMENT of laws_FnExactGreedyLose: yours. -/
def laws_FnExactGreedyLose.Pure : Prop := ∀ (a0 : Int) (a1 : Int), (Lit.int .i64 a0).wf = true → (Lit.int .i64 a1).wf = true → ∃ k, laws_FnExactGreedyLose.f k a0 a1 = some true
theorem laws_FnExactGreedyLose.walk (P : laws_FnExactGreedyLose.Pure) (a0 : Int) (a1 : Int) (w : World) (w0 : (Lit.int .i64 a0).wf = true) (w1 : (Lit.int .i64 a1).wf = true) :
    Calls Try.prog 7 #[.int .i64 a0, .int .i64 a1] w fun e w' => e = .returned (.bool true) ∧ Below w.heap.size w w' := by
  obtain ⟨k, h⟩ := P a0 a1 w0 w1
  refine (laws_FnExactGreedyLose.calls k a0 a1 true w h).mono ?_
  rintro e w' ⟨rfl, hd⟩
  exact ⟨rfl, hd⟩

end Go.Proofs.Ytfmhcgjmgaefcab.P

namespace Go.Proofs.Ytfmhcgjmgaefcab.P
open Go.RowKit Go.Proofs.YtfmhcgjmgaefcabW.PrintWords Go.Proofs.YtfmhcgjmgaefcabW.PrintLast Go.Proofs.YtfmhcgjmgaefcabW.PrintMore
attribute [local go_sem] max2_int min2_int max_two min_two max_three min_three max_four min_four
set_option linter.unusedVariables false
set_option linter.unusedSimpArgs false

/-! ### impl_isLined: function 69 -/
def impl_isLined.f (a0 : Int) (a1 : Int) : Option (Bool) := (impl_within.f a0 1 60).bind fun t101 => (if t101 = true then ((impl_within.f a1 1 60).bind fun t102 => (some t102)) else (some false))
set_option maxHeartbeats 8000000 in
set_option maxRecDepth 100000 in
theorem impl_isLined.calls (a0 : Int) (a1 : Int) (r : Bool) (w : World) (h : impl_isLined.f a0 a1 = some r) :
    Calls Try.prog 69 #[.int .i64 a0, .int .i64 a1] w fun e w' => e = .returned (.bool r) ∧ Drawn0 w w' := by
  have H : ((impl_within.f a0 1 60).bind fun t101 => (if t101 = true then ((impl_within.f a1 1 60).bind fun t102 => (some t102)) else (some false))) = some r := h
  clear h
  replace H := Option.bind_eq_some_iff.mp H
  obtain ⟨t101, A30, H⟩ := H
  replace H : (if t101 = true then ((impl_within.f a1 1 60).bind fun t102 => (some t102)) else (some false)) = some r := H
  have A3 := Aside0.mk A30
  clear A30
  by_cases c4 : t101 = true
  · subst c4
    have H1 : ((impl_within.f a1 1 60).bind fun t102 => (some t102)) = some r := by rw [if_pos rfl] at H; exact H
    clear H
    have H := H1
    clear H1
    replace H := Option.bind_eq_some_iff.mp H
    obtain ⟨t102, A50, H⟩ := H
    replace H : (some t102) = some r := H
    have A5 := Aside0.mk A50
    clear A50
    obtain rfl := Option.some.inj H
    go_enter Try.func69, Try.ntmps69
    go_wp2_with (first | ((with_reducible refine gate_callee (f := 33) rfl ?_); refine goesL_ (some 6) rfl rfl Try.func33 (by kernel_rfl) rfl #[.int .i64 a0, .int .i64 1, .int .i64 60] rfl (by (try simp only [List.map_toArray, List.map_cons, List.map_nil]); first | done | rfl | (simp only [List.length_drop, List.length_take]; rfl)) ?_; (with_reducible refine (impl_within.calls a0 1 60 true _ A3.out).mono ?_); rintro e w' ⟨rfl, ⟨nd, rfl⟩⟩; refine ⟨_, rfl, ?_⟩) | (go_at_call 33; (with_reducible refine (impl_within.calls a1 1 60 t102 _ A5.out).mono ?_); rintro e w' ⟨rfl, ⟨nd, rfl⟩⟩))
    go_ret
    exact ⟨by first | rfl | (simp; done) | (simp [*]; done), by repeat (first | exact Drawn0.refl _ | apply Drawn0.step)⟩
  · replace c4 := Bool.eq_false_iff.mpr c4
    subst c4
    have H1 : (some false) = some r := by rw [if_neg (show ¬ (false = true) by decide)] at H; exact H
    clear H
    have H := H1
    clear H1
    obtain rfl := Option.some.inj H
    go_enter Try.func69, Try.ntmps69
    go_wp2_with (first | ((with_reducible refine gate_callee (f := 33) rfl ?_); refine goesL_ (some 6) rfl rfl Try.func33 (by kernel_rfl) rfl #[.int .i64 a0, .int .i64 1, .int .i64 60] rfl (by (try simp only [List.map_toArray, List.map_cons, List.map_nil]); first | done | rfl | (simp only [List.length_drop, List.length_take]; rfl)) ?_; (with_reducible refine (impl_within.calls a0 1 60 false _ A3.out).mono ?_); rintro e w' ⟨rfl, ⟨nd, rfl⟩⟩; refine ⟨_, rfl, ?_⟩))
    go_ret
    exact ⟨by first | rfl | (simp; done) | (simp [*]; done), by repeat (first | exact Drawn0.refl _ | apply Drawn0.step)⟩

end Go.Proofs.Ytfmhcgjmgaefcab.P

namespace Go.Proofs.Ytfmhcgjmgaefcab.Pure
set_option linter.unusedVariables false
set_option linter.unusedSimpArgs false
open Go.RowKit Go.Proofs.Ytfmhcgjmgaefcab.P Go.Proofs.YtfmhcgjmgaefcabW.PrintWords Go.Proofs.YtfmhcgjmgaefcabW.PrintLast Go.Proofs.Ytfmhcgjmgaefcab.Aid
theorem l1In_f (n lo hi : Int) : spec_l1In.f n lo hi = some (inR n lo hi) := by
  unfold spec_l1In.f inR; by_cases c : lo ≤ n <;> simp [c]
theorem within_f (n lo hi : Int) : impl_within.f n lo hi = some (inR n lo hi) := by
  unfold impl_within.f inR; by_cases c : lo ≤ n <;> simp [c]
theorem l1Most_f (a b : Int) : spec_l1Most.f a b = some (max a b) := by
  unfold spec_l1Most.f; split <;> simp <;> omega
theorem l1Least_f (a b : Int) : spec_l1Least.f a b = some (min a b) := by
  unfold spec_l1Least.f; split <;> simp <;> omega
theorem feSize_f (a b m : Int) : spec_feSize.f a b m = some (inR a 1 m && inR b 1 m) := by
  unfold spec_feSize.f; simp only [l1In_f, Option.bind_some]; cases inR a 1 m <;> simp
theorem isLined_f (a b : Int) : impl_isLined.f a b = some (inR a 1 60 && inR b 1 60) := by
  unfold impl_isLined.f; simp only [within_f, Option.bind_some]; cases inR a 1 60 <;> simp
theorem raGood_f (a b : Int) : spec_raGood.f a b = some (inR a 1 1000 && inR b 1 1000) := by
  unfold spec_raGood.f; simp only [l1In_f, Option.bind_some]; cases inR a 1 1000 <;> simp
theorem isRatio_f (a b : Int) : impl_isRatio.f a b = some (inR a 1 1000 && inR b 1 1000) := by
  unfold impl_isRatio.f; simp only [within_f, Option.bind_some]; cases inR a 1 1000 <;> simp
end Go.Proofs.Ytfmhcgjmgaefcab.Pure

namespace Go.Proofs.Ytfmhcgjmgaefcab.Pure
set_option linter.unusedVariables false
set_option linter.unusedSimpArgs false
open Go.RowKit Go.Proofs.Ytfmhcgjmgaefcab.P Go.Proofs.YtfmhcgjmgaefcabW.PrintWords Go.Proofs.YtfmhcgjmgaefcabW.PrintLast Go.Proofs.YtfmhcgjmgaefcabW.PrintMore Go.Proofs.Ytfmhcgjmgaefcab.Aid Go.Proofs.Ytfmhcgjmgaefcab.T
theorem isFew_f (a b : Int) : impl_isFew.f a b = some (inR a 1 13 && inR b 1 13) := by
  unfold impl_isFew.f; simp only [within_f, Option.bind_some]; cases inR a 1 13 <;> simp
theorem few_rng {a b : Int} (h : (inR a 1 13 && inR b 1 13) = true) : (1 ≤ a ∧ a ≤ 13) ∧ 1 ≤ b ∧ b ≤ 13 := by
  rw [Bool.and_eq_true, inR_iff, inR_iff] at h; exact h
theorem fewest_f {a b : Int} (h : (inR a 1 13 && inR b 1 13) = true) : impl_fewest.f a b = some (fewM a.toNat b : Int) := by
  obtain ⟨h1, h2⟩ := few_rng h
  unfold impl_fewest.f; rw [if_pos ⟨h1.1, h1.2, h2.1, h2.2⟩]
theorem feAll_f {a b : Int} (h : (inR a 1 13 && inR b 1 13) = true) : spec_feAll.f a b = some ((tilFew a.toNat b).reverse.map (fun t => (⟨a, b, t⟩ : Ct))) := by
  obtain ⟨h1, h2⟩ := few_rng h
  unfold spec_feAll.f; rw [if_pos ⟨h1.1, h1.2, h2.1, h2.2⟩]
theorem few_head {a b : Int} (h : (inR a 1 13 && inR b 1 13) = true) : 0 < (((tilFew a.toNat b).reverse.map (fun t => (⟨a, b, t⟩ : Ct))).length : Int) ∧ (((rd_T38 ((tilFew a.toNat b).reverse.map (fun t => (⟨a, b, t⟩ : Ct))) 0).f2).length : Int) = (fewM a.toNat b : Int) := by
  obtain ⟨h1, h2⟩ := few_rng h
  have hne := tilFew_ne a.toNat b (by omega) (by omega)
  have hl : 0 < (tilFew a.toNat b).reverse.length := by rw [List.length_reverse]; exact List.length_pos_iff.2 hne
  refine ⟨by rw [List.length_map]; omega, ?_⟩
  have hm := (tilFew_mem (List.mem_reverse.1 (List.getElem_mem (h := hl)))).2
  unfold rd_T38
  rw [show (0 : Int).toNat = 0 from rfl, List.getD_eq_getElem?_getD, List.getElem?_map, List.getElem?_eq_getElem hl]
  simp only [Option.map_some, Option.getD_some]
  rw [hm]
/-- both say the least number of squares -/
def fewV (a b : Int) : Int × Bool := if (inR a 1 13 && inR b 1 13) = true then ((fewM a.toNat b : Int), true) else (0, false)
theorem implFewest_f (a b : Int) : impl_FewestSquares.f a b = some (fewV a b) := by
  unfold impl_FewestSquares.f fewV
  rw [isFew_f, Option.bind_some]
  by_cases h : (inR a 1 13 && inR b 1 13) = true
  · rw [if_pos h, if_pos h, fewest_f h]; rfl
  · rw [if_neg h, if_neg h]
end Go.Proofs.Ytfmhcgjmgaefcab.Pure

namespace Go.Proofs.Ytfmhcgjmgaefcab.Pure
set_option linter.unusedVariables false
set_option linter.unusedSimpArgs false
open Go.RowKit Go.Proofs.Ytfmhcgjmgaefcab.P Go.Proofs.YtfmhcgjmgaefcabW.PrintWords Go.Proofs.YtfmhcgjmgaefcabW.PrintLast Go.Proofs.YtfmhcgjmgaefcabW.PrintMore Go.Proofs.Ytfmhcgjmgaefcab.Aid Go.Proofs.Ytfmhcgjmgaefcab.T
/-- both loops come to one list -/
theorem quot_l : ∀ (d : Nat) (a b : Int) (l : List Int), 0 ≤ a → a ≤ 1000 → 0 ≤ b → b < d → d ≤ 1001 → l.length + d ≤ 2000 → ∃ r : List Int, r.length ≤ 2000 ∧ Ev (fun k => spec_raQuotients.l0 k a b l) r ∧ Ev (fun k => impl_quotients.l0 k a b l) r
  | 0, a, b, l, h0, h1, h2, h3, h4, h5 => by omega
  | d + 1, a, b, l, h0, h1, h2, h3, h4, h5 => by
    by_cases e : b > 0
    · have hm : Int.tmod a b = a % b := Int.tmod_eq_emod_of_nonneg h0
      have h6 := Int.emod_nonneg a (show b ≠ 0 by omega)
      have h7 := Int.emod_lt_of_pos a e
      obtain ⟨r, hr, h8, h9⟩ := quot_l d b (Int.tmod a b) (l ++ [wrap64 (Int.tdiv a b)]) (by omega) (by omega) (by omega) (by omega) (by omega) (by simp; omega)
      exact ⟨r, hr, Ev.step (fun _ => spec_raQuotients.l0.eq_2 ..) (ev_pos e (ev_neg (by omega) (ev_pos (by omega) h8))), Ev.step (fun _ => impl_quotients.l0.eq_2 ..) (ev_pos e (ev_neg (by omega) (ev_pos (by omega) h9)))⟩
    · exact ⟨l, by omega, Ev.step (fun _ => spec_raQuotients.l0.eq_2 ..) (ev_neg e (ev_some rfl)), Ev.step (fun _ => impl_quotients.l0.eq_2 ..) (ev_neg e (ev_some rfl))⟩
theorem quot_both {a b : Int} (c : (inR a 1 1000 && inR b 1 1000) = true) : ∃ r : List Int, r.length ≤ 2000 ∧ Ev (fun k => spec_raQuotients.f k a b) r ∧ Ev (fun k => impl_quotients.f k a b) r := by
  have hb : 1 ≤ a ∧ a ≤ 1000 ∧ 1 ≤ b ∧ b ≤ 1000 := by
    simp [inR] at c; omega
  obtain ⟨r, hr, h8, h9⟩ := quot_l 1001 (max a b) (min a b) [] (by omega) (by omega) (by omega) (by omega) (by omega) (by simp)
  refine ⟨r, hr, ev_call (l1Most_f a b) (ev_call (l1Least_f a b) h8), ?_⟩
  have e1 : mx a b = max a b := by unfold mx; omega
  have e2 : mn a b = min a b := by unfold mn; omega
  show Ev (fun k => impl_quotients.l0 k (mx a b) (mn a b) ([] : List Int)) r
  rw [e1, e2]; exact h9
/-- both sums are one -/
theorem qsum_l (l : List Int) (hl : l.length ≤ 1000000) : ∀ (d i : Nat) (s : Int), i + d = l.length → ∃ r : Int, Ev (fun k => spec_raSum.l0 k s l (l.length : Int) i) r ∧ Ev (fun k => impl_sum.l0 k s l (l.length : Int) i) r
  | 0, i, s, hd => ⟨s, Ev.step (fun _ => spec_raSum.l0.eq_2 ..) (ev_neg (by omega) (ev_some rfl)), Ev.step (fun _ => impl_sum.l0.eq_2 ..) (ev_neg (by omega) (ev_some rfl))⟩
  | d + 1, i, s, hd => by
    obtain ⟨r, h1, h2⟩ := qsum_l l hl d (i + 1) (wrap64 (s + rd l i)) (by omega)
    have ew : wrap64 ((i : Int) + 1) = ((i + 1 : Nat) : Int) := by rw [w64 (by omega) (by omega)]; omega
    refine ⟨r, Ev.step (fun _ => spec_raSum.l0.eq_2 ..) (ev_pos (by omega) (ev_pos (by omega) (ev_pos (by omega) ?_))), Ev.step (fun _ => impl_sum.l0.eq_2 ..) (ev_pos (by omega) (ev_pos (by omega) (ev_pos (by omega) ?_)))⟩
    · rw [ew]; exact h1
    · rw [ew]; exact h2
theorem qsum_both (l : List Int) (hl : l.length ≤ 1000000) : ∃ r : Int, Ev (fun k => spec_raSum.f k l) r ∧ Ev (fun k => impl_sum.f k l) r := qsum_l l hl l.length 0 0 (by omega)
theorem countGreedy_both (a b : Int) : ∃ r : Int × Bool, Ev (fun k => spec_CountGreedy.f k a b) r ∧ Ev (fun k => impl_CountGreedy.f k a b) r ∧ r.2 = (inR a 1 1000 && inR b 1 1000) := by
  by_cases c : (inR a 1 1000 && inR b 1 1000) = true
  · obtain ⟨l, hl, h1, h2⟩ := quot_both c
    obtain ⟨s, h3, h4⟩ := qsum_both l (by omega)
    exact ⟨(s, true), ev_call (raGood_f a b) (ev_pos c (ev_bind h1 (ev_bind h3 (ev_some rfl)))), ev_bind (a := (l, true)) (ev_call (isRatio_f a b) (ev_pos c (ev_bind h2 (ev_some rfl)))) (ev_bind h4 (ev_some rfl)), by rw [c]⟩
  · have e0 : Ev (fun k => impl_sum.f k ([] : List Int)) 0 := Ev.step (g := fun k => impl_sum.f k ([] : List Int)) (fun _ => impl_sum.l0.eq_2 ..) (ev_neg (by simp) (ev_some rfl))
    exact ⟨(0, false), ev_call (raGood_f a b) (ev_neg c (ev_some rfl)), ev_bind (a := (([] : List Int), false)) (ev_call (isRatio_f a b) (ev_neg c (ev_some rfl))) (ev_bind e0 (ev_some rfl)), by simpa using c⟩
end Go.Proofs.Ytfmhcgjmgaefcab.Pure

namespace Go.Proofs.Ytfmhcgjmgaefcab.Pure
set_option linter.unusedVariables false
set_option linter.unusedSimpArgs false
open Go.RowKit Go.Proofs.Ytfmhcgjmgaefcab.P Go.Proofs.YtfmhcgjmgaefcabW.PrintWords Go.Proofs.YtfmhcgjmgaefcabW.PrintLast Go.Proofs.YtfmhcgjmgaefcabW.PrintMore Go.Proofs.Ytfmhcgjmgaefcab.Aid Go.Proofs.Ytfmhcgjmgaefcab.T
theorem greedyLose_both (a b : Int) : ∃ r : Int × Bool, Ev (fun k => spec_GreedyLose.f k a b) r ∧ Ev (fun k => impl_GreedyLose.f k a b) r := by
  by_cases h : (inR a 1 13 && inR b 1 13) = true
  · obtain ⟨g, h1, h2, _⟩ := countGreedy_both a b
    refine ⟨(wrap64 (g.1 - (fewM a.toNat b : Int)), true), ev_call (feSize_f a b 13) (ev_pos h (ev_bind h1 (ev_call (feAll_f h) (ev_pos (few_head h).1 (ev_some (by rw [(few_head h).2])))))), ev_call (implFewest_f a b) ?_⟩
    unfold fewV
    rw [if_pos h]
    exact ev_pos rfl (ev_bind h2 (ev_some rfl))
  · refine ⟨(0, false), ev_call (feSize_f a b 13) (ev_neg h (ev_some rfl)), ev_call (implFewest_f a b) ?_⟩
    unfold fewV
    rw [if_neg h]
    exact ev_neg (by simp) (ev_some rfl)
theorem FnExactGreedyLose : laws_FnExactGreedyLose.Pure := by
  intro a b _ _
  obtain ⟨r, h1, h2⟩ := greedyLose_both a b
  exact ev_at (ev_bind h1 (ev_bind h2 (ev_pos rfl (ev_neg (by simp) (ev_some rfl)))))
end Go.Proofs.Ytfmhcgjmgaefcab.Pure
